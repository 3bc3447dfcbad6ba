/- Lower of the document. -/
import Derived.Test.YtmmjgbdihgdekaaDoorC8
namespace Go.Proofs.YtmmjgbdihgdekaaDoor
open Go Go.RowKit
set_option linter.unusedSimpArgs false
set_option linter.unusedVariables false
set_option maxRecDepth 100000
set_option maxHeartbeats 4000000
def abc : List UInt8 := [97, 98, 99, 100, 101, 102, 103, 104, 105, 106, 107, 108, 109, 110, 111, 112, 113, 114, 115, 116, 117, 118, 119, 120, 121, 122]
theorem abc_at : ∀ k, k < 26 → (abc.drop k).take 1 = [UInt8.ofNat (97 + k)] := by decide
theorem abc_low {c : UInt8} (h1 : 65 ≤ c.toNat) (h2 : c.toNat ≤ 90) {x y : Int} (hx : x = (c.toNat : Int) - 65) (hy : y = (c.toNat : Int) - 64) : (abc.drop x.toNat).take (y.toNat - x.toNat) = [lowB c] := by
  have e1 : x.toNat = c.toNat - 65 := by omega
  have e2 : y.toNat - x.toNat = 1 := by omega
  rw [e2, e1, abc_at _ (by omega)]
  congr 1
  apply UInt8.toNat_inj.1
  have := lowB_nat c
  rw [if_pos ⟨h1, h2⟩] at this
  simp only [UInt8.toNat_ofNat']
  omega
theorem app_strC (a b : List UInt8) : (⟨a.toArray⟩ : ByteArray) ++ ⟨b.toArray⟩ = ⟨(a ++ b).toArray⟩ := by
  apply ByteArray.ext
  simp [ByteArray.data_append]
theorem app_eq {a l m : List UInt8} {x y : Nat} (h : a ++ (l.drop x).take (y - x) = m) : some (VV.sc (.string ((⟨a.toArray⟩ : ByteArray) ++ (⟨l.toArray⟩ : ByteArray).extract x y))) = some (strV m) := by
  rw [ext_str, app_strC, h]; rfl
theorem szok {a l : List UInt8} {x y : Nat} (h : a.length + l.length ≤ 4611686018427387904) : ¬ (((⟨a.toArray⟩ : ByteArray).size + ((⟨l.toArray⟩ : ByteArray).extract x y).size : Nat) : Int) > IntKind.i64.max := by
  have h2 : (IntKind.i64.max : Int) = 9223372036854775807 := by decide
  rw [h2, ext_str, str_size, str_size]
  simp only [List.length_take, List.length_drop]
  omega
theorem low_next {l : List UInt8} {i : Nat} {c : UInt8} (h : l[i]? = some c) : (l.take i).map lowB ++ [lowB c] = (l.take (i + 1)).map lowB := by
  obtain ⟨hi, e⟩ := List.getElem?_eq_some_iff.1 h
  rw [List.take_succ_eq_append_getElem hi, e]
  simp
theorem take_one {l : List UInt8} {i : Nat} {c : UInt8} (h : l[i]? = some c) : (l.drop i).take 1 = [c] := by
  obtain ⟨hi, e⟩ := List.getElem?_eq_some_iff.1 h
  rw [List.drop_eq_getElem_cons hi, e]
  rfl
theorem rlower_call (l : List UInt8) (H : Heap) (hl : l.length ≤ 140737488355328) : VCall Tryd.prog 97 [strV l] H (fun x K => x = strV (l.map lowB) ∧ K = H) := by
  refine VCall.go Tryd.func97 rfl ?_
  repeat' (first | with_reducible refine And.intro ?_ ?_ | ((with_reducible intro hc); (try simp only [zA, zB, zC, zD, zE, zF, zG, zH, zI, zJ, zK, zL, zM, zN, zO, zP, zQ, zR, zS, zT, zU, zV, zW] at hc); (first | (exact absurd rfl hc) | (exact absurd trivial hc) | (exfalso; omega) | skip)) | ((conv => whnf); first | with_reducible refine And.intro ?_ ?_ | refine ifB_intro ?_ ?_ | refine xA (by omega) ?_ | ((refine xB ?_); intro kw hk1 hk2) | refine xC (by omega) ?_ | refine xD ?_ | refine xE (by omega) ?_ | refine xF (by omega) ?_ | refine xG ?_ | refine xH ?_ | refine xI (by omega) ?_ | refine xJ (by omega) ?_ | (with_reducible refine stopA ?_) | refine Exists.intro _ (And.intro (by rfl) ?_) | refine GOp.via (by rfl) ?_ | (with_reducible first | refine stopO ?_ | refine stopE ?_ | refine stopD ?_ | refine stopW ?_ | refine stopG ?_ | refine stopC ?_ | refine stopR ?_)))
  refine GWP'.mk (GWP.loopK (α := Nat) (fun i => i ≤ l.length) (fun i => [(0, strV l), (3, strV ((l.take i).map lowB)), (4, iV i)]) (fun _ => H) [] 40 (fun i => l.length - i) 0 (Nat.zero_le _) ⟨rfl, ⟨rfl, rfl, rfl, trivial⟩, rfl, rfl⟩ ?_)
  rintro i hi
  by_cases hil : i < l.length
  · have hb : ∃ c, l[i]? = some c := ⟨l[i], by simp⟩
    obtain ⟨c, hb⟩ := hb
    have hlt := u8_lt c
    have hlow := lowB_nat c
    have hz : ((l.take i).map lowB).length + l.length ≤ 4611686018427387904 := by simp; omega
    have hz2 : ((l.take i).map lowB).length + abc.length ≤ 4611686018427387904 := by simp [abc]; omega
    repeat' (first | with_reducible refine And.intro ?_ ?_ | ((with_reducible intro hc); (try simp only [zA, zB, zC, zD, zE, zF, zG, zH, zI, zJ, zK, zL, zM, zN, zO, zP, zQ, zR, zS, zT, zU, zV, zW] at hc); (first | (exact absurd rfl hc) | (exact absurd trivial hc) | (exfalso; omega) | skip)) | exact Is.mk rfl rfl | ((conv => whnf); first | with_reducible refine And.intro ?_ ?_ | exact Is.mk rfl rfl | (with_reducible apply Val.via) | refine ifB_intro ?_ ?_ | refine xA (by omega) ?_ | ((refine xB ?_); intro kw hk1 hk2) | refine xC (by omega) ?_ | refine xD ?_ | refine xE (by omega) ?_ | refine xF (by omega) ?_ | refine xG ?_ | refine xH ?_ | refine xI (by omega) ?_ | refine xJ (by omega) ?_ | (with_reducible refine stopA ?_) | refine Exists.intro _ (And.intro (by (first | exact hb | rfl)) ?_) | refine GOp.drawn (by rfl) (by rfl) (Nat.le_of_ble_eq_true (by rfl)) (by rfl) | refine GOp.via (by rfl) ?_ | (refine GWP.draw mixed _ (by kernel_rfl) (by rfl) ?_) | (with_reducible first | refine stopO ?_ | refine stopE ?_ | refine stopD ?_ | refine stopW ?_ | refine stopG ?_) | fail | (with_reducible refine stopC ?_) | (with_reducible refine stopR ?_)))
    all_goals (try simp only [str_size])
    all_goals (first | omega | (change _ ≤ ((26 : Nat) : Int); omega) | exact szok hz | exact szok (l := abc) hz2 | refine Done'.mk ?_)
    · refine ⟨i + 1, by omega, by omega, rfl, ⟨rfl, app_eq (l := abc) ?_, iv_eq ?_, trivial⟩, rfl, rfl⟩
      · rw [abc_low (c := c) (by omega) (by omega) (by omega) (by omega)]
        exact low_next hb
      · push_cast
        omega
    all_goals (
      have hsame : lowB c = c := by
        unfold lowB
        rw [if_neg (by omega)]
      refine ⟨i + 1, by omega, by omega, rfl, ⟨rfl, app_eq ?_, iv_eq ?_, trivial⟩, rfl, rfl⟩
      · have q : ((i : Int) + 1).toNat - ((i : Int)).toNat = 1 := by omega
        rw [q, Int.toNat_natCast, take_one hb, ← low_next hb, hsame]
      · push_cast
        omega)
  · repeat' (first | with_reducible refine And.intro ?_ ?_ | ((with_reducible intro hc); (try simp only [zA, zB, zC, zD, zE, zF, zG, zH, zI, zJ, zK, zL, zM, zN, zO, zP, zQ, zR, zS, zT, zU, zV, zW] at hc); (first | (exact absurd rfl hc) | (exact absurd trivial hc) | (exfalso; omega) | skip)) | ((conv => whnf); first | with_reducible refine And.intro ?_ ?_ | refine ifB_intro ?_ ?_ | refine xA (by omega) ?_ | ((refine xB ?_); intro kw hk1 hk2) | refine xC (by omega) ?_ | refine xD ?_ | refine xE (by omega) ?_ | refine xF (by omega) ?_ | refine xG ?_ | refine xH ?_ | refine xI (by omega) ?_ | refine xJ (by omega) ?_ | (with_reducible refine stopA ?_) | refine Exists.intro _ (And.intro (by rfl) ?_) | refine GOp.via (by rfl) ?_ | (with_reducible first | refine stopO ?_ | refine stopE ?_ | refine stopD ?_ | refine stopW ?_ | refine stopG ?_ | refine stopC ?_ | refine stopR ?_)))
    all_goals (first | omega | refine Done'.mk ⟨?_, rfl⟩)
    have : i = l.length := by omega
    subst this
    rw [List.take_length]
    rfl
end Go.Proofs.YtmmjgbdihgdekaaDoor
