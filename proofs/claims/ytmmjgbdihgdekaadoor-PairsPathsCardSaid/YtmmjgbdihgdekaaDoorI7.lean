import Derived.Test.YtmmjgbdihgdekaaDoorI4
import Derived.Test.YtmmjgbdihgdekaaDoorI6
/- Lower and Token of the document. -/
namespace Go.Proofs.YtmmjgbdihgdekaaDoor
open Go Go.RowKit
set_option linter.unusedSimpArgs false
set_option linter.unusedVariables false
set_option maxRecDepth 100000
set_option maxHeartbeats 4000000
theorem rtoken_call (l : List UInt8) (H : Heap) (hl : l.length ≤ 4611686018427387904) : VCall Tryd.prog 82 [strV l] H (fun x K => x = booV (tokenB l) ∧ K = H) := by
  refine VCall.go Tryd.func82 rfl ?_
  repeat' (first | with_reducible refine And.intro ?_ ?_ | ((with_reducible intro hc); (try simp only [zA, zB, zC, zD, zE, zF, zG, zH, zI, zJ, zK, zL, zM, zN, zO, zP, zQ, zR, zS, zT, zU, zV, zW] at hc); (first | (exact absurd rfl hc) | (exact absurd trivial hc) | (exfalso; omega) | skip)) | ((conv => whnf); first | with_reducible refine And.intro ?_ ?_ | refine ifB_intro ?_ ?_ | refine xA (by omega) ?_ | ((refine xB ?_); intro kw hk1 hk2) | refine xC (by omega) ?_ | refine xD ?_ | refine xE (by omega) ?_ | refine xF (by omega) ?_ | refine xG ?_ | refine xH ?_ | refine xI (by omega) ?_ | refine xJ (by omega) ?_ | (with_reducible refine stopA ?_) | refine Exists.intro _ (And.intro (by rfl) ?_) | refine GOp.via (by rfl) ?_ | (with_reducible first | refine stopO ?_ | refine stopE ?_ | refine stopD ?_ | refine stopW ?_ | refine stopG ?_ | refine stopC ?_ | refine stopR ?_)))
  refine GWP'.mk (GWP.loopK (α := Nat) (fun i => i ≤ l.length ∧ (l.drop i).all tokB = l.all tokB) (fun i => [(0, strV l), (3, iV i)]) (fun _ => H) [] 31 (fun i => l.length - i) 0 ⟨Nat.zero_le _, rfl⟩ ⟨rfl, ⟨rfl, rfl, trivial⟩, rfl, rfl⟩ ?_)
  rintro i ⟨hi, hgo⟩
  by_cases hil : i < l.length
  · have hb : ∃ c, l[i]? = some c := ⟨l[i], by simp⟩
    obtain ⟨c, hb⟩ := hb
    have hd := dgB_eq c
    have ht : tokB c = (decide (48 ≤ c.toNat ∧ c.toNat ≤ 57) || letB c || puncB c) := by rw [hd]; rfl
    rw [all_at tokB hb, ht] at hgo
    have good : (decide (48 ≤ c.toNat ∧ c.toNat ≤ 57) || letB c || puncB c) = true → ∃ b, (b ≤ l.length ∧ (l.drop b).all tokB = l.all tokB) ∧ l.length - b < l.length - i ∧ b = i + 1 := by
      intro h
      rw [h, Bool.true_and] at hgo
      exact ⟨i + 1, ⟨by omega, hgo⟩, by omega, rfl⟩
    have bad : (decide (48 ≤ c.toNat ∧ c.toNat ≤ 57) || letB c || puncB c) = false → tokenB l = false := by
      intro h
      rw [h, Bool.false_and] at hgo
      unfold tokenB
      rw [← hgo]
      rfl
    have hdec : ∀ p : Prop, [Decidable p] → p → decide p = true := fun p _ h => decide_eq_true h
    repeat' (first | with_reducible refine And.intro ?_ ?_ | ((with_reducible intro hc); (try simp only [zA, zB, zC, zD, zE, zF, zG, zH, zI, zJ, zK, zL, zM, zN, zO, zP, zQ, zR, zS, zT, zU, zV, zW] at hc); (first | (exact absurd rfl hc) | (exact absurd trivial hc) | (exfalso; omega) | skip)) | ((conv => whnf); first | with_reducible refine And.intro ?_ ?_ | refine ifB_intro ?_ ?_ | refine xA (by omega) ?_ | ((refine xB ?_); intro kw hk1 hk2) | refine xC (by omega) ?_ | refine xD ?_ | refine xE (by omega) ?_ | refine xF (by omega) ?_ | refine xG ?_ | refine xH ?_ | refine xI (by omega) ?_ | refine xJ (by omega) ?_ | (with_reducible refine stopA ?_) | refine Exists.intro _ (And.intro (by (first | exact hb | rfl)) ?_) | refine GOp.via (by rfl) ?_ | (with_reducible first | refine stopO ?_ | refine stopE ?_ | refine stopD ?_ | refine stopW ?_ | refine stopG ?_) | (first | (refine GCall.mk ((ndigit_call c _).mono ?_); rintro _ _ ⟨rfl, rfl⟩) | (refine GCall.mk ((letter_call c _).mono ?_); rintro _ _ ⟨rfl, rfl⟩) | (refine GCall.mk ((in_call c [33, 35, 36, 37, 38, 39, 42, 43, 45, 46, 94, 95, 96, 124, 126] _ (by simp)).mono ?_); rintro _ _ ⟨rfl, rfl⟩)) | (with_reducible refine stopC ?_) | (with_reducible refine stopR ?_)))
    all_goals (first | omega | refine Done'.mk ?_)
    all_goals (first | (refine ⟨?_, rfl⟩; rw [bad (by simp_all [puncB])]; rfl) | skip)
    all_goals (
      have hg : (decide (48 ≤ c.toNat ∧ c.toNat ≤ 57) || letB c || puncB c) = true := by simp_all [puncB]
      obtain ⟨b, h1, h2, rfl⟩ := good hg
      refine ⟨i + 1, h1, h2, rfl, ⟨rfl, iv_eq ?_, trivial⟩, rfl, rfl⟩
      push_cast
      omega)
  · repeat' (first | with_reducible refine And.intro ?_ ?_ | ((with_reducible intro hc); (try simp only [zA, zB, zC, zD, zE, zF, zG, zH, zI, zJ, zK, zL, zM, zN, zO, zP, zQ, zR, zS, zT, zU, zV, zW] at hc); (first | (exact absurd rfl hc) | (exact absurd trivial hc) | (exfalso; omega) | skip)) | ((conv => whnf); first | with_reducible refine And.intro ?_ ?_ | refine ifB_intro ?_ ?_ | refine xA (by omega) ?_ | ((refine xB ?_); intro kw hk1 hk2) | refine xC (by omega) ?_ | refine xD ?_ | refine xE (by omega) ?_ | refine xF (by omega) ?_ | refine xG ?_ | refine xH ?_ | refine xI (by omega) ?_ | refine xJ (by omega) ?_ | (with_reducible refine stopA ?_) | refine Exists.intro _ (And.intro (by rfl) ?_) | refine GOp.via (by rfl) ?_ | (with_reducible first | refine stopO ?_ | refine stopE ?_ | refine stopD ?_ | refine stopW ?_ | refine stopG ?_ | refine stopC ?_ | refine stopR ?_)))
    all_goals (first | omega | refine Done'.mk ⟨?_, rfl⟩)
    have : i = l.length := by omega
    subst this
    rw [List.drop_length] at hgo
    unfold tokenB
    rw [← hgo]
    refine Eq.trans (b := booV (!((⟨l.toArray⟩ : ByteArray).data.toList == (⟨#[]⟩ : ByteArray).data.toList))) rfl ?_
    rw [str_list, str_nil]
    rfl
end Go.Proofs.YtmmjgbdihgdekaaDoor

/- Lower of the document. -/
namespace Go.Proofs.YtmmjgbdihgdekaaDoor
open Go Go.RowKit
set_option linter.unusedSimpArgs false
set_option linter.unusedVariables false
set_option maxRecDepth 100000
set_option maxHeartbeats 4000000
def abc : List UInt8 := [97, 98, 99, 100, 101, 102, 103, 104, 105, 106, 107, 108, 109, 110, 111, 112, 113, 114, 115, 116, 117, 118, 119, 120, 121, 122]
theorem abc_at : ∀ k, k < 26 → (abc.drop k).take 1 = [UInt8.ofNat (97 + k)] := by decide
theorem abc_low {c : UInt8} (h1 : 65 ≤ c.toNat) (h2 : c.toNat ≤ 90) {x y : Int} (hx : x = (c.toNat : Int) - 65) (hy : y = (c.toNat : Int) - 64) : (abc.drop x.toNat).take (y.toNat - x.toNat) = [lowB c] := by
  have e1 : x.toNat = c.toNat - 65 := by omega
  have e2 : y.toNat - x.toNat = 1 := by omega
  rw [e2, e1, abc_at _ (by omega)]
  congr 1
  apply UInt8.toNat_inj.1
  have := lowB_nat c
  rw [if_pos ⟨h1, h2⟩] at this
  simp only [UInt8.toNat_ofNat']
  omega
theorem app_strC (a b : List UInt8) : (⟨a.toArray⟩ : ByteArray) ++ ⟨b.toArray⟩ = ⟨(a ++ b).toArray⟩ := by
  apply ByteArray.ext
  simp [ByteArray.data_append]
theorem app_eq {a l m : List UInt8} {x y : Nat} (h : a ++ (l.drop x).take (y - x) = m) : some (VV.sc (.string ((⟨a.toArray⟩ : ByteArray) ++ (⟨l.toArray⟩ : ByteArray).extract x y))) = some (strV m) := by
  rw [ext_str, app_strC, h]; rfl
theorem szok {a l : List UInt8} {x y : Nat} (h : a.length + l.length ≤ 4611686018427387904) : ¬ (((⟨a.toArray⟩ : ByteArray).size + ((⟨l.toArray⟩ : ByteArray).extract x y).size : Nat) : Int) > IntKind.i64.max := by
  have h2 : (IntKind.i64.max : Int) = 9223372036854775807 := by decide
  rw [h2, ext_str, str_size, str_size]
  simp only [List.length_take, List.length_drop]
  omega
theorem low_next {l : List UInt8} {i : Nat} {c : UInt8} (h : l[i]? = some c) : (l.take i).map lowB ++ [lowB c] = (l.take (i + 1)).map lowB := by
  obtain ⟨hi, e⟩ := List.getElem?_eq_some_iff.1 h
  rw [List.take_succ_eq_append_getElem hi, e]
  simp
theorem take_one {l : List UInt8} {i : Nat} {c : UInt8} (h : l[i]? = some c) : (l.drop i).take 1 = [c] := by
  obtain ⟨hi, e⟩ := List.getElem?_eq_some_iff.1 h
  rw [List.drop_eq_getElem_cons hi, e]
  rfl
theorem rlower_call (l : List UInt8) (H : Heap) (hl : l.length ≤ 140737488355328) : VCall Tryd.prog 97 [strV l] H (fun x K => x = strV (l.map lowB) ∧ K = H) := by
  refine VCall.go Tryd.func97 rfl ?_
  repeat' (first | with_reducible refine And.intro ?_ ?_ | ((with_reducible intro hc); (try simp only [zA, zB, zC, zD, zE, zF, zG, zH, zI, zJ, zK, zL, zM, zN, zO, zP, zQ, zR, zS, zT, zU, zV, zW] at hc); (first | (exact absurd rfl hc) | (exact absurd trivial hc) | (exfalso; omega) | skip)) | ((conv => whnf); first | with_reducible refine And.intro ?_ ?_ | refine ifB_intro ?_ ?_ | refine xA (by omega) ?_ | ((refine xB ?_); intro kw hk1 hk2) | refine xC (by omega) ?_ | refine xD ?_ | refine xE (by omega) ?_ | refine xF (by omega) ?_ | refine xG ?_ | refine xH ?_ | refine xI (by omega) ?_ | refine xJ (by omega) ?_ | (with_reducible refine stopA ?_) | refine Exists.intro _ (And.intro (by rfl) ?_) | refine GOp.via (by rfl) ?_ | (with_reducible first | refine stopO ?_ | refine stopE ?_ | refine stopD ?_ | refine stopW ?_ | refine stopG ?_ | refine stopC ?_ | refine stopR ?_)))
  refine GWP'.mk (GWP.loopK (α := Nat) (fun i => i ≤ l.length) (fun i => [(0, strV l), (3, strV ((l.take i).map lowB)), (4, iV i)]) (fun _ => H) [] 40 (fun i => l.length - i) 0 (Nat.zero_le _) ⟨rfl, ⟨rfl, rfl, rfl, trivial⟩, rfl, rfl⟩ ?_)
  rintro i hi
  by_cases hil : i < l.length
  · have hb : ∃ c, l[i]? = some c := ⟨l[i], by simp⟩
    obtain ⟨c, hb⟩ := hb
    have hlt := u8_lt c
    have hlow := lowB_nat c
    have hz : ((l.take i).map lowB).length + l.length ≤ 4611686018427387904 := by simp; omega
    have hz2 : ((l.take i).map lowB).length + abc.length ≤ 4611686018427387904 := by simp [abc]; omega
    repeat' (first | with_reducible refine And.intro ?_ ?_ | ((with_reducible intro hc); (try simp only [zA, zB, zC, zD, zE, zF, zG, zH, zI, zJ, zK, zL, zM, zN, zO, zP, zQ, zR, zS, zT, zU, zV, zW] at hc); (first | (exact absurd rfl hc) | (exact absurd trivial hc) | (exfalso; omega) | skip)) | exact Is.mk rfl rfl | ((conv => whnf); first | with_reducible refine And.intro ?_ ?_ | exact Is.mk rfl rfl | (with_reducible apply Val.via) | refine ifB_intro ?_ ?_ | refine xA (by omega) ?_ | ((refine xB ?_); intro kw hk1 hk2) | refine xC (by omega) ?_ | refine xD ?_ | refine xE (by omega) ?_ | refine xF (by omega) ?_ | refine xG ?_ | refine xH ?_ | refine xI (by omega) ?_ | refine xJ (by omega) ?_ | (with_reducible refine stopA ?_) | refine Exists.intro _ (And.intro (by (first | exact hb | rfl)) ?_) | refine GOp.drawn (by rfl) (by rfl) (Nat.le_of_ble_eq_true (by rfl)) (by rfl) | refine GOp.via (by rfl) ?_ | (refine GWP.draw mixed _ (by kernel_rfl) (by rfl) ?_) | (with_reducible first | refine stopO ?_ | refine stopE ?_ | refine stopD ?_ | refine stopW ?_ | refine stopG ?_) | fail | (with_reducible refine stopC ?_) | (with_reducible refine stopR ?_)))
    all_goals (try simp only [str_size])
    all_goals (first | omega | (change _ ≤ ((26 : Nat) : Int); omega) | exact szok hz | exact szok (l := abc) hz2 | refine Done'.mk ?_)
    · refine ⟨i + 1, by omega, by omega, rfl, ⟨rfl, app_eq (l := abc) ?_, iv_eq ?_, trivial⟩, rfl, rfl⟩
      · rw [abc_low (c := c) (by omega) (by omega) (by omega) (by omega)]
        exact low_next hb
      · push_cast
        omega
    all_goals (
      have hsame : lowB c = c := by
        unfold lowB
        rw [if_neg (by omega)]
      refine ⟨i + 1, by omega, by omega, rfl, ⟨rfl, app_eq ?_, iv_eq ?_, trivial⟩, rfl, rfl⟩
      · have q : ((i : Int) + 1).toNat - ((i : Int)).toNat = 1 := by omega
        rw [q, Int.toNat_natCast, take_one hb, ← low_next hb, hsame]
      · push_cast
        omega)
  · repeat' (first | with_reducible refine And.intro ?_ ?_ | ((with_reducible intro hc); (try simp only [zA, zB, zC, zD, zE, zF, zG, zH, zI, zJ, zK, zL, zM, zN, zO, zP, zQ, zR, zS, zT, zU, zV, zW] at hc); (first | (exact absurd rfl hc) | (exact absurd trivial hc) | (exfalso; omega) | skip)) | ((conv => whnf); first | with_reducible refine And.intro ?_ ?_ | refine ifB_intro ?_ ?_ | refine xA (by omega) ?_ | ((refine xB ?_); intro kw hk1 hk2) | refine xC (by omega) ?_ | refine xD ?_ | refine xE (by omega) ?_ | refine xF (by omega) ?_ | refine xG ?_ | refine xH ?_ | refine xI (by omega) ?_ | refine xJ (by omega) ?_ | (with_reducible refine stopA ?_) | refine Exists.intro _ (And.intro (by rfl) ?_) | refine GOp.via (by rfl) ?_ | (with_reducible first | refine stopO ?_ | refine stopE ?_ | refine stopD ?_ | refine stopW ?_ | refine stopG ?_ | refine stopC ?_ | refine stopR ?_)))
    all_goals (first | omega | refine Done'.mk ⟨?_, rfl⟩)
    have : i = l.length := by omega
    subst this
    rw [List.take_length]
    rfl
end Go.Proofs.YtmmjgbdihgdekaaDoor

/- The document's free bytes, hexadecimal signs and coded texts, walked. -/
namespace Go.Proofs.YtmmjgbdihgdekaaDoor
open Go Go.RowKit
set_option linter.unusedSimpArgs false
set_option linter.unusedVariables false
set_option maxRecDepth 100000
set_option maxHeartbeats 16000000
theorem GQuo.u8 {a b : Int} {K : Int → Prop} (h : 0 ≤ a ∧ 0 < b ∧ a < 256) (k : K (a / b)) : GQuo .u8 a b K := ⟨by
  have h1 : a.tdiv b = a / b := Int.tdiv_eq_ediv_of_nonneg h.1
  have h2 : 0 ≤ a / b := Int.ediv_nonneg h.1 (by omega)
  have h3 : a / b ≤ a := Int.ediv_le_self b h.1
  rw [h1]
  exact (GAr.u8s ⟨h2, by omega⟩ k).out⟩
theorem app_strP (a c : List UInt8) : ((⟨a.toArray⟩ : ByteArray) ++ ⟨c.toArray⟩) = ⟨(a ++ c).toArray⟩ := by
  apply ByteArray.ext
  simp [ByteArray.data_append]
theorem szP (l : List UInt8) : (⟨l.toArray⟩ : ByteArray).size = l.length := by simp [ByteArray.size]
theorem hexT_ext : ∀ n : Fin 16, (⟨digT.toArray⟩ : ByteArray).extract n.val (n.val + 1) = ⟨[hexD n.val].toArray⟩ := by decide +kernel
theorem hex3_call (b : UInt8) (H : Heap) : VCall Tryd.prog 129 [bV b] H (fun x K => x = strV [hexD (b.toNat / 16), hexD (b.toNat % 16)] ∧ K = H) := by
  have hb := u8_lt b
  refine VCall.pure (by simp [bV, nameless_sc]) (nameless_sc _) ?_
  refine VCall.go Tryd.func129 rfl ?_
  have e1 : (⟨#[48, 49, 50, 51, 52, 53, 54, 55, 56, 57, 65, 66, 67, 68, 69, 70]⟩ : ByteArray).extract ((b.toNat : Int) / 16).toNat ((b.toNat : Int) / 16 + 1).toNat = ⟨[hexD (b.toNat / 16)].toArray⟩ := by
    rw [show ((b.toNat : Int) / 16).toNat = b.toNat / 16 by omega, show ((b.toNat : Int) / 16 + 1).toNat = b.toNat / 16 + 1 by omega]
    exact hexT_ext ⟨b.toNat / 16, by omega⟩
  have e2 : (⟨#[48, 49, 50, 51, 52, 53, 54, 55, 56, 57, 65, 66, 67, 68, 69, 70]⟩ : ByteArray).extract ((b.toNat : Int) % 16).toNat ((b.toNat : Int) % 16 + 1).toNat = ⟨[hexD (b.toNat % 16)].toArray⟩ := by
    rw [show ((b.toNat : Int) % 16).toNat = b.toNat % 16 by omega, show ((b.toNat : Int) % 16 + 1).toNat = b.toNat % 16 + 1 by omega]
    exact hexT_ext ⟨b.toNat % 16, by omega⟩
  have e3 : (⟨#[48, 49, 50, 51, 52, 53, 54, 55, 56, 57, 65, 66, 67, 68, 69, 70]⟩ : ByteArray).extract ((b.toNat : Int) / 16).toNat ((b.toNat : Int) / 16 + 1).toNat ++ (⟨#[48, 49, 50, 51, 52, 53, 54, 55, 56, 57, 65, 66, 67, 68, 69, 70]⟩ : ByteArray).extract ((b.toNat : Int) % 16).toNat ((b.toNat : Int) % 16 + 1).toNat = ⟨[hexD (b.toNat / 16), hexD (b.toNat % 16)].toArray⟩ := by
    rw [e1, e2, app_strP]; rfl
  repeat' (first | with_reducible refine And.intro ?_ ?_ | ((with_reducible intro hc); (try simp only [zA, zB, zC, zD, zE, zF, zG, zH, zI, zJ, zK, zL, zM, zN, zO, zP, zQ, zR, zS, zT, zU, zV, zW] at hc); (first | (exact absurd rfl hc) | (exact absurd trivial hc) | (exfalso; omega) | skip)) | exact Is.mk rfl rfl | ((conv => whnf); first | with_reducible refine And.intro ?_ ?_ | with_reducible intro hx | exact Is.mk rfl rfl | (with_reducible first | apply Val.via | apply ValH.via) | refine ifB_intro ?_ ?_ | refine xA (by omega) ?_ | ((refine xB ?_); intro kw hk1 hk2) | refine xC (by omega) ?_ | refine xD ?_ | refine xE (by omega) ?_ | refine xF (by omega) ?_ | refine xG ?_ | refine xH ?_ | refine xI (by omega) ?_ | refine xJ (by omega) ?_ | (with_reducible refine stopA ?_) | refine Exists.intro _ (And.intro (by (first | exact vat_of rfl rfl rfl | rfl)) ?_) | refine GOp.drawn (by rfl) (by rfl) (Nat.le_of_ble_eq_true (by rfl)) (by rfl) | refine GOp.via (by rfl) ?_ | refine GWP.drawY mixed _ (by kernel_rfl) (by rfl) ?_ | (refine GQuo.u8 (by omega) ?_) | (with_reducible first | refine stopO ?_ | refine stopE ?_ | refine stopD ?_ | refine stopW ?_ | refine stopG ?_ | refine stopC ?_ | refine stopR ?_)))
  all_goals (first | omega | (change _ ≤ ((16 : Nat) : Int); omega) | skip)
  · rw [e1, e2, szP, szP] at hx
    have h2 : (IntKind.i64.max : Int) = 9223372036854775807 := by decide
    rw [h2] at hx
    simp only [List.length_cons, List.length_nil] at hx
    omega
  refine Done'.mk ?_
  exact congrArg (fun z => VV.sc (.string z)) e3
end Go.Proofs.YtmmjgbdihgdekaaDoor

/- The document's coded, walked. -/
namespace Go.Proofs.YtmmjgbdihgdekaaDoor
open Go Go.RowKit
set_option linter.unusedSimpArgs false
set_option linter.unusedVariables false
set_option maxRecDepth 100000
set_option maxHeartbeats 16000000
theorem ext_one {l : List UInt8} {i : Nat} {c : UInt8} (h : l[i]? = some c) : (⟨l.toArray⟩ : ByteArray).extract ((i : Int)).toNat ((i : Int) + 1).toNat = ⟨[c].toArray⟩ := by
  obtain ⟨hi, e⟩ := List.getElem?_eq_some_iff.1 h
  rw [show ((i : Int) + 1).toNat = i + 1 by omega, Int.toNat_natCast, ext_str, show i + 1 - i = 1 by omega, List.drop_eq_getElem_cons hi, e]
  rfl
end Go.Proofs.YtmmjgbdihgdekaaDoor

/- The document's text of pairs, walked. -/
namespace Go.Proofs.YtmmjgbdihgdekaaDoor
open Go Go.RowKit
set_option linter.unusedSimpArgs false
set_option linter.unusedVariables false
set_option maxRecDepth 100000
set_option maxHeartbeats 16000000
end Go.Proofs.YtmmjgbdihgdekaaDoor

