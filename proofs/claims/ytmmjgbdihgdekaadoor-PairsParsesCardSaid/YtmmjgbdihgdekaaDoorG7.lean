import Derived.Test.YtmmjgbdihgdekaaDoorG4
import Derived.Test.YtmmjgbdihgdekaaDoorG6
/- Lower and Token of the document. -/
namespace Go.Proofs.YtmmjgbdihgdekaaDoor
open Go Go.RowKit
set_option linter.unusedSimpArgs false
set_option linter.unusedVariables false
set_option maxRecDepth 100000
set_option maxHeartbeats 4000000
end Go.Proofs.YtmmjgbdihgdekaaDoor

/- Lower of the document. -/
namespace Go.Proofs.YtmmjgbdihgdekaaDoor
open Go Go.RowKit
set_option linter.unusedSimpArgs false
set_option linter.unusedVariables false
set_option maxRecDepth 100000
set_option maxHeartbeats 4000000
def abc : List UInt8 := [97, 98, 99, 100, 101, 102, 103, 104, 105, 106, 107, 108, 109, 110, 111, 112, 113, 114, 115, 116, 117, 118, 119, 120, 121, 122]
theorem abc_at : ∀ k, k < 26 → (abc.drop k).take 1 = [UInt8.ofNat (97 + k)] := by decide
theorem abc_low {c : UInt8} (h1 : 65 ≤ c.toNat) (h2 : c.toNat ≤ 90) {x y : Int} (hx : x = (c.toNat : Int) - 65) (hy : y = (c.toNat : Int) - 64) : (abc.drop x.toNat).take (y.toNat - x.toNat) = [lowB c] := by
  have e1 : x.toNat = c.toNat - 65 := by omega
  have e2 : y.toNat - x.toNat = 1 := by omega
  rw [e2, e1, abc_at _ (by omega)]
  congr 1
  apply UInt8.toNat_inj.1
  have := lowB_nat c
  rw [if_pos ⟨h1, h2⟩] at this
  simp only [UInt8.toNat_ofNat']
  omega
theorem app_strC (a b : List UInt8) : (⟨a.toArray⟩ : ByteArray) ++ ⟨b.toArray⟩ = ⟨(a ++ b).toArray⟩ := by
  apply ByteArray.ext
  simp [ByteArray.data_append]
theorem app_eq {a l m : List UInt8} {x y : Nat} (h : a ++ (l.drop x).take (y - x) = m) : some (VV.sc (.string ((⟨a.toArray⟩ : ByteArray) ++ (⟨l.toArray⟩ : ByteArray).extract x y))) = some (strV m) := by
  rw [ext_str, app_strC, h]; rfl
theorem szok {a l : List UInt8} {x y : Nat} (h : a.length + l.length ≤ 4611686018427387904) : ¬ (((⟨a.toArray⟩ : ByteArray).size + ((⟨l.toArray⟩ : ByteArray).extract x y).size : Nat) : Int) > IntKind.i64.max := by
  have h2 : (IntKind.i64.max : Int) = 9223372036854775807 := by decide
  rw [h2, ext_str, str_size, str_size]
  simp only [List.length_take, List.length_drop]
  omega
theorem low_next {l : List UInt8} {i : Nat} {c : UInt8} (h : l[i]? = some c) : (l.take i).map lowB ++ [lowB c] = (l.take (i + 1)).map lowB := by
  obtain ⟨hi, e⟩ := List.getElem?_eq_some_iff.1 h
  rw [List.take_succ_eq_append_getElem hi, e]
  simp
theorem take_one {l : List UInt8} {i : Nat} {c : UInt8} (h : l[i]? = some c) : (l.drop i).take 1 = [c] := by
  obtain ⟨hi, e⟩ := List.getElem?_eq_some_iff.1 h
  rw [List.drop_eq_getElem_cons hi, e]
  rfl
theorem rlower_call (l : List UInt8) (H : Heap) (hl : l.length ≤ 140737488355328) : VCall Tryd.prog 97 [strV l] H (fun x K => x = strV (l.map lowB) ∧ K = H) := by
  refine VCall.go Tryd.func97 rfl ?_
  repeat' (first | with_reducible refine And.intro ?_ ?_ | ((with_reducible intro hc); (try simp only [zA, zB, zC, zD, zE, zF, zG, zH, zI, zJ, zK, zL, zM, zN, zO, zP, zQ, zR, zS, zT, zU, zV, zW] at hc); (first | (exact absurd rfl hc) | (exact absurd trivial hc) | (exfalso; omega) | skip)) | ((conv => whnf); first | with_reducible refine And.intro ?_ ?_ | refine ifB_intro ?_ ?_ | refine xA (by omega) ?_ | ((refine xB ?_); intro kw hk1 hk2) | refine xC (by omega) ?_ | refine xD ?_ | refine xE (by omega) ?_ | refine xF (by omega) ?_ | refine xG ?_ | refine xH ?_ | refine xI (by omega) ?_ | refine xJ (by omega) ?_ | (with_reducible refine stopA ?_) | refine Exists.intro _ (And.intro (by rfl) ?_) | refine GOp.via (by rfl) ?_ | (with_reducible first | refine stopO ?_ | refine stopE ?_ | refine stopD ?_ | refine stopW ?_ | refine stopG ?_ | refine stopC ?_ | refine stopR ?_)))
  refine GWP'.mk (GWP.loopK (α := Nat) (fun i => i ≤ l.length) (fun i => [(0, strV l), (3, strV ((l.take i).map lowB)), (4, iV i)]) (fun _ => H) [] 40 (fun i => l.length - i) 0 (Nat.zero_le _) ⟨rfl, ⟨rfl, rfl, rfl, trivial⟩, rfl, rfl⟩ ?_)
  rintro i hi
  by_cases hil : i < l.length
  · have hb : ∃ c, l[i]? = some c := ⟨l[i], by simp⟩
    obtain ⟨c, hb⟩ := hb
    have hlt := u8_lt c
    have hlow := lowB_nat c
    have hz : ((l.take i).map lowB).length + l.length ≤ 4611686018427387904 := by simp; omega
    have hz2 : ((l.take i).map lowB).length + abc.length ≤ 4611686018427387904 := by simp [abc]; omega
    repeat' (first | with_reducible refine And.intro ?_ ?_ | ((with_reducible intro hc); (try simp only [zA, zB, zC, zD, zE, zF, zG, zH, zI, zJ, zK, zL, zM, zN, zO, zP, zQ, zR, zS, zT, zU, zV, zW] at hc); (first | (exact absurd rfl hc) | (exact absurd trivial hc) | (exfalso; omega) | skip)) | exact Is.mk rfl rfl | ((conv => whnf); first | with_reducible refine And.intro ?_ ?_ | exact Is.mk rfl rfl | (with_reducible apply Val.via) | refine ifB_intro ?_ ?_ | refine xA (by omega) ?_ | ((refine xB ?_); intro kw hk1 hk2) | refine xC (by omega) ?_ | refine xD ?_ | refine xE (by omega) ?_ | refine xF (by omega) ?_ | refine xG ?_ | refine xH ?_ | refine xI (by omega) ?_ | refine xJ (by omega) ?_ | (with_reducible refine stopA ?_) | refine Exists.intro _ (And.intro (by (first | exact hb | rfl)) ?_) | refine GOp.drawn (by rfl) (by rfl) (Nat.le_of_ble_eq_true (by rfl)) (by rfl) | refine GOp.via (by rfl) ?_ | (refine GWP.draw mixed _ (by kernel_rfl) (by rfl) ?_) | (with_reducible first | refine stopO ?_ | refine stopE ?_ | refine stopD ?_ | refine stopW ?_ | refine stopG ?_) | fail | (with_reducible refine stopC ?_) | (with_reducible refine stopR ?_)))
    all_goals (try simp only [str_size])
    all_goals (first | omega | (change _ ≤ ((26 : Nat) : Int); omega) | exact szok hz | exact szok (l := abc) hz2 | refine Done'.mk ?_)
    · refine ⟨i + 1, by omega, by omega, rfl, ⟨rfl, app_eq (l := abc) ?_, iv_eq ?_, trivial⟩, rfl, rfl⟩
      · rw [abc_low (c := c) (by omega) (by omega) (by omega) (by omega)]
        exact low_next hb
      · push_cast
        omega
    all_goals (
      have hsame : lowB c = c := by
        unfold lowB
        rw [if_neg (by omega)]
      refine ⟨i + 1, by omega, by omega, rfl, ⟨rfl, app_eq ?_, iv_eq ?_, trivial⟩, rfl, rfl⟩
      · have q : ((i : Int) + 1).toNat - ((i : Int)).toNat = 1 := by omega
        rw [q, Int.toNat_natCast, take_one hb, ← low_next hb, hsame]
      · push_cast
        omega)
  · repeat' (first | with_reducible refine And.intro ?_ ?_ | ((with_reducible intro hc); (try simp only [zA, zB, zC, zD, zE, zF, zG, zH, zI, zJ, zK, zL, zM, zN, zO, zP, zQ, zR, zS, zT, zU, zV, zW] at hc); (first | (exact absurd rfl hc) | (exact absurd trivial hc) | (exfalso; omega) | skip)) | ((conv => whnf); first | with_reducible refine And.intro ?_ ?_ | refine ifB_intro ?_ ?_ | refine xA (by omega) ?_ | ((refine xB ?_); intro kw hk1 hk2) | refine xC (by omega) ?_ | refine xD ?_ | refine xE (by omega) ?_ | refine xF (by omega) ?_ | refine xG ?_ | refine xH ?_ | refine xI (by omega) ?_ | refine xJ (by omega) ?_ | (with_reducible refine stopA ?_) | refine Exists.intro _ (And.intro (by rfl) ?_) | refine GOp.via (by rfl) ?_ | (with_reducible first | refine stopO ?_ | refine stopE ?_ | refine stopD ?_ | refine stopW ?_ | refine stopG ?_ | refine stopC ?_ | refine stopR ?_)))
    all_goals (first | omega | refine Done'.mk ⟨?_, rfl⟩)
    have : i = l.length := by omega
    subst this
    rw [List.take_length]
    rfl
end Go.Proofs.YtmmjgbdihgdekaaDoor

/- The document's free bytes, hexadecimal signs and coded texts, walked. -/
namespace Go.Proofs.YtmmjgbdihgdekaaDoor
open Go Go.RowKit
set_option linter.unusedSimpArgs false
set_option linter.unusedVariables false
set_option maxRecDepth 100000
set_option maxHeartbeats 16000000
theorem GQuo.u8 {a b : Int} {K : Int → Prop} (h : 0 ≤ a ∧ 0 < b ∧ a < 256) (k : K (a / b)) : GQuo .u8 a b K := ⟨by
  have h1 : a.tdiv b = a / b := Int.tdiv_eq_ediv_of_nonneg h.1
  have h2 : 0 ≤ a / b := Int.ediv_nonneg h.1 (by omega)
  have h3 : a / b ≤ a := Int.ediv_le_self b h.1
  rw [h1]
  exact (GAr.u8s ⟨h2, by omega⟩ k).out⟩
theorem app_strP (a c : List UInt8) : ((⟨a.toArray⟩ : ByteArray) ++ ⟨c.toArray⟩) = ⟨(a ++ c).toArray⟩ := by
  apply ByteArray.ext
  simp [ByteArray.data_append]
theorem szP (l : List UInt8) : (⟨l.toArray⟩ : ByteArray).size = l.length := by simp [ByteArray.size]
theorem hexT_ext : ∀ n : Fin 16, (⟨digT.toArray⟩ : ByteArray).extract n.val (n.val + 1) = ⟨[hexD n.val].toArray⟩ := by decide +kernel
theorem hex3_call (b : UInt8) (H : Heap) : VCall Tryd.prog 129 [bV b] H (fun x K => x = strV [hexD (b.toNat / 16), hexD (b.toNat % 16)] ∧ K = H) := by
  have hb := u8_lt b
  refine VCall.pure (by simp [bV, nameless_sc]) (nameless_sc _) ?_
  refine VCall.go Tryd.func129 rfl ?_
  have e1 : (⟨#[48, 49, 50, 51, 52, 53, 54, 55, 56, 57, 65, 66, 67, 68, 69, 70]⟩ : ByteArray).extract ((b.toNat : Int) / 16).toNat ((b.toNat : Int) / 16 + 1).toNat = ⟨[hexD (b.toNat / 16)].toArray⟩ := by
    rw [show ((b.toNat : Int) / 16).toNat = b.toNat / 16 by omega, show ((b.toNat : Int) / 16 + 1).toNat = b.toNat / 16 + 1 by omega]
    exact hexT_ext ⟨b.toNat / 16, by omega⟩
  have e2 : (⟨#[48, 49, 50, 51, 52, 53, 54, 55, 56, 57, 65, 66, 67, 68, 69, 70]⟩ : ByteArray).extract ((b.toNat : Int) % 16).toNat ((b.toNat : Int) % 16 + 1).toNat = ⟨[hexD (b.toNat % 16)].toArray⟩ := by
    rw [show ((b.toNat : Int) % 16).toNat = b.toNat % 16 by omega, show ((b.toNat : Int) % 16 + 1).toNat = b.toNat % 16 + 1 by omega]
    exact hexT_ext ⟨b.toNat % 16, by omega⟩
  have e3 : (⟨#[48, 49, 50, 51, 52, 53, 54, 55, 56, 57, 65, 66, 67, 68, 69, 70]⟩ : ByteArray).extract ((b.toNat : Int) / 16).toNat ((b.toNat : Int) / 16 + 1).toNat ++ (⟨#[48, 49, 50, 51, 52, 53, 54, 55, 56, 57, 65, 66, 67, 68, 69, 70]⟩ : ByteArray).extract ((b.toNat : Int) % 16).toNat ((b.toNat : Int) % 16 + 1).toNat = ⟨[hexD (b.toNat / 16), hexD (b.toNat % 16)].toArray⟩ := by
    rw [e1, e2, app_strP]; rfl
  repeat' (first | with_reducible refine And.intro ?_ ?_ | ((with_reducible intro hc); (try simp only [zA, zB, zC, zD, zE, zF, zG, zH, zI, zJ, zK, zL, zM, zN, zO, zP, zQ, zR, zS, zT, zU, zV, zW] at hc); (first | (exact absurd rfl hc) | (exact absurd trivial hc) | (exfalso; omega) | skip)) | exact Is.mk rfl rfl | ((conv => whnf); first | with_reducible refine And.intro ?_ ?_ | with_reducible intro hx | exact Is.mk rfl rfl | (with_reducible first | apply Val.via | apply ValH.via) | refine ifB_intro ?_ ?_ | refine xA (by omega) ?_ | ((refine xB ?_); intro kw hk1 hk2) | refine xC (by omega) ?_ | refine xD ?_ | refine xE (by omega) ?_ | refine xF (by omega) ?_ | refine xG ?_ | refine xH ?_ | refine xI (by omega) ?_ | refine xJ (by omega) ?_ | (with_reducible refine stopA ?_) | refine Exists.intro _ (And.intro (by (first | exact vat_of rfl rfl rfl | rfl)) ?_) | refine GOp.drawn (by rfl) (by rfl) (Nat.le_of_ble_eq_true (by rfl)) (by rfl) | refine GOp.via (by rfl) ?_ | refine GWP.drawY mixed _ (by kernel_rfl) (by rfl) ?_ | (refine GQuo.u8 (by omega) ?_) | (with_reducible first | refine stopO ?_ | refine stopE ?_ | refine stopD ?_ | refine stopW ?_ | refine stopG ?_ | refine stopC ?_ | refine stopR ?_)))
  all_goals (first | omega | (change _ ≤ ((16 : Nat) : Int); omega) | skip)
  · rw [e1, e2, szP, szP] at hx
    have h2 : (IntKind.i64.max : Int) = 9223372036854775807 := by decide
    rw [h2] at hx
    simp only [List.length_cons, List.length_nil] at hx
    omega
  refine Done'.mk ?_
  exact congrArg (fun z => VV.sc (.string z)) e3
theorem free_eq : ∀ k : Fin 256, freeB (UInt8.ofNat k.val) = ((decide (48 ≤ (UInt8.ofNat k.val).toNat ∧ (UInt8.ofNat k.val).toNat ≤ 57) || letB (UInt8.ofNat k.val)) || ([45, 46, 95, 126] : List UInt8).contains (UInt8.ofNat k.val)) := by decide +kernel
theorem free3_call (b : UInt8) (H : Heap) : VCall Tryd.prog 128 [bV b] H (fun x K => x = booV (freeB b) ∧ K = H) := by
  have hf := free_eq ⟨b.toNat, b.toNat_lt⟩
  simp only [UInt8.ofNat_toNat] at hf
  rw [hf]
  have k1 := fun H => letter_call b H
  have k2 := fun H => ndigit_call b H
  have k3 := fun H => in_call b [45, 46, 95, 126] H (by simp)
  generalize letB b = p1 at *
  generalize decide (48 ≤ b.toNat ∧ b.toNat ≤ 57) = p2 at *
  generalize ([45, 46, 95, 126] : List UInt8).contains b = p3 at *
  refine VCall.go Tryd.func128 rfl ?_
  repeat' (first | with_reducible refine And.intro ?_ ?_ | ((with_reducible intro hc); (try simp only [zA, zB, zC, zD, zE, zF, zG, zH, zI, zJ, zK, zL, zM, zN, zO, zP, zQ, zR, zS, zT, zU, zV, zW] at hc); (first | (exact absurd rfl hc) | (exact absurd trivial hc) | (exfalso; omega) | skip)) | ((conv => whnf); first | with_reducible refine And.intro ?_ ?_ | refine ifB_intro ?_ ?_ | refine xA (by omega) ?_ | ((refine xB ?_); intro kw hk1 hk2) | refine xC (by omega) ?_ | refine xD ?_ | refine xE (by omega) ?_ | refine xF (by omega) ?_ | refine xG ?_ | refine xH ?_ | refine xI (by omega) ?_ | refine xJ (by omega) ?_ | (with_reducible refine stopA ?_) | refine Exists.intro _ (And.intro (by rfl) ?_) | refine GOp.via (by rfl) ?_ | (with_reducible first | refine stopO ?_ | refine stopE ?_ | refine stopD ?_ | refine stopW ?_ | refine stopG ?_) | (first | (refine GCall.mk ((k1 _).mono ?_); rintro _ _ ⟨rfl, rfl⟩) | (refine GCall.mk ((k2 _).mono ?_); rintro _ _ ⟨rfl, rfl⟩) | (refine GCall.mk ((k3 _).mono ?_); rintro _ _ ⟨rfl, rfl⟩)) | (with_reducible refine stopC ?_) | (with_reducible refine stopR ?_)))
  all_goals (refine Done'.mk ⟨?_, rfl⟩; subst_vars; first | rfl | simp [booV])
end Go.Proofs.YtmmjgbdihgdekaaDoor

/- The document's coded, walked. -/
namespace Go.Proofs.YtmmjgbdihgdekaaDoor
open Go Go.RowKit
set_option linter.unusedSimpArgs false
set_option linter.unusedVariables false
set_option maxRecDepth 100000
set_option maxHeartbeats 16000000
theorem ext_one {l : List UInt8} {i : Nat} {c : UInt8} (h : l[i]? = some c) : (⟨l.toArray⟩ : ByteArray).extract ((i : Int)).toNat ((i : Int) + 1).toNat = ⟨[c].toArray⟩ := by
  obtain ⟨hi, e⟩ := List.getElem?_eq_some_iff.1 h
  rw [show ((i : Int) + 1).toNat = i + 1 by omega, Int.toNat_natCast, ext_str, show i + 1 - i = 1 by omega, List.drop_eq_getElem_cons hi, e]
  rfl
theorem codedB_at {l : List UInt8} {i : Nat} {c : UInt8} (h : l[i]? = some c) : codedB (l.drop i) = cdC c ++ codedB (l.drop (i + 1)) := by
  obtain ⟨hi, e⟩ := List.getElem?_eq_some_iff.1 h
  rw [List.drop_eq_getElem_cons hi, e]
  rfl
theorem coded32_call (l : List UInt8) (hl : l.length ≤ 1000000) (H : Heap) : VCall Tryd.prog 89 [strV l] H (fun x K => x = strV (codedB l) ∧ K = H) := by
  refine VCall.pure (by simp [nameless_strV]) (nameless_sc _) ?_
  refine VCall.go Tryd.func89 rfl ?_
  have hmax : (IntKind.i64.max : Int) = 9223372036854775807 := by decide
  repeat' (first | with_reducible refine And.intro ?_ ?_ | ((with_reducible intro hc); (try simp only [zA, zB, zC, zD, zE, zF, zG, zH, zI, zJ, zK, zL, zM, zN, zO, zP, zQ, zR, zS, zT, zU, zV, zW] at hc); (first | (exact absurd rfl hc) | (exact absurd trivial hc) | (exfalso; omega) | skip)) | exact Is.mk rfl rfl | ((conv => whnf); first | with_reducible refine And.intro ?_ ?_ | with_reducible intro hx | exact Is.mk rfl rfl | (with_reducible first | apply Val.via | apply ValH.via) | refine ifB_intro ?_ ?_ | refine xA (by omega) ?_ | ((refine xB ?_); intro kw hk1 hk2) | refine xC (by omega) ?_ | refine xD ?_ | refine xE (by omega) ?_ | refine xF (by omega) ?_ | refine xG ?_ | refine xH ?_ | refine xI (by omega) ?_ | refine xJ (by omega) ?_ | (with_reducible refine stopA ?_) | refine Exists.intro _ (And.intro (by rfl) ?_) | refine GOp.drawn (by rfl) (by rfl) (Nat.le_of_ble_eq_true (by rfl)) (by rfl) | refine GOp.via (by rfl) ?_ | refine GWP.drawY mixed _ (by kernel_rfl) (by rfl) ?_ | fail | (with_reducible first | refine stopO ?_ | refine stopE ?_ | refine stopD ?_ | refine stopW ?_ | refine stopG ?_ | refine stopC ?_ | refine stopR ?_)))
  (refine GWP'.mk (GWP.loopB [] (fun (s : List UInt8 × Nat) => s.2 ≤ l.length ∧ s.1 ++ codedB (l.drop s.2) = codedB l ∧ s.1.length ≤ 3 * s.2) (fun s => [(3, strV s.1), (4, iV s.2)]) (fun s => []) 0 (fun s => l.length - s.2) ([], 0) ⟨Nat.zero_le _, rfl, Nat.zero_le _⟩ ?_); (conv => whnf); refine And.intro ?_ ?_)
  · focus (refine KeptA.of [] rfl rfl (by repeat' (first | exact trivial | refine And.intro rfl ?_)) rfl ?_ ?_; all_goals (repeat' (first | exact trivial | (refine And.intro ?_ ?_) | (refine Exists.intro _ (And.intro rfl ?_)) | (refine RenO.opt ?_) | (refine RenO.toOpt ?_) | (refine RenO.cells ?_) | exact RenO.defs | exact RenL.nil | (refine RenL.cons ?_ ?_) | (first | exact RenV.of (nameless_strV []) | (with_reducible exact RenV.sc) | exact RenV.gsN | exact RenV.gsZ | exact RenV.gsL (by decide) | exact RenV.slL (by decide) | ((first | refine RenV.gsE (by (first | exact List.Mem.head _ | exact List.Mem.tail _ (List.Mem.head _) | exact List.Mem.tail _ (List.Mem.tail _ (List.Mem.head _)) | (simp; done))) ?_ | refine RenV.eq (scI_eq ?_) (nameless_sc _)); (first | rfl | omega | (simp only [List.length_append, List.length_cons, List.length_nil, List.length_map, List.length_take, List.length_drop] <;> omega) | (simp only <;> omega) | (simp <;> omega))) | exact RenV.undef) | (with_unfolding_all exact (rfl : (_ : VObj) = _)))))
  rintro ⟨done, i⟩ ⟨h1, h2, h3⟩
  simp only at h1 h2 h3 ⊢
  by_cases hil : i < l.length
  · obtain ⟨c, hb⟩ : ∃ c, l[i]? = some c := ⟨l[i], List.getElem?_eq_getElem hil⟩
    have hext := ext_one hb
    rw [codedB_at hb] at h2
    have k1 := fun H => free3_call c H
    have k2 := fun H => hex3_call c H
    by_cases h32 : c = 32
    · subst h32
      repeat' (first | with_reducible refine And.intro ?_ ?_ | ((with_reducible intro hc); (try simp only [zA, zB, zC, zD, zE, zF, zG, zH, zI, zJ, zK, zL, zM, zN, zO, zP, zQ, zR, zS, zT, zU, zV, zW] at hc); (first | (exact absurd rfl hc) | (exact absurd trivial hc) | (exfalso; omega) | skip)) | exact Is.mk rfl rfl | ((conv => whnf); first | with_reducible refine And.intro ?_ ?_ | with_reducible intro hx | exact Is.mk rfl rfl | (with_reducible first | apply Val.via | apply ValH.via) | refine ifB_intro ?_ ?_ | refine xA (by omega) ?_ | ((refine xB ?_); intro kw hk1 hk2) | refine xC (by omega) ?_ | refine xD ?_ | refine xE (by omega) ?_ | refine xF (by omega) ?_ | refine xG ?_ | refine xH ?_ | refine xI (by omega) ?_ | refine xJ (by omega) ?_ | (with_reducible refine stopA ?_) | refine Exists.intro _ (And.intro (by (first | exact hb | exact vat_of rfl rfl rfl | rfl)) ?_) | refine GOp.drawn (by rfl) (by rfl) (Nat.le_of_ble_eq_true (by rfl)) (by rfl) | refine GOp.via (by rfl) ?_ | refine GWP.drawY mixed _ (by kernel_rfl) (by rfl) ?_ | (first | (refine GCall.mk ((k1 _).mono ?_); rintro _ _ ⟨rfl, rfl⟩) | (refine GCall.mk ((k2 _).mono ?_); rintro _ _ ⟨rfl, rfl⟩)) | (with_reducible first | refine stopO ?_ | refine stopE ?_ | refine stopD ?_ | refine stopW ?_ | refine stopG ?_ | refine stopC ?_ | refine stopR ?_)))
      (all_goals (first | omega | (rw [szP]; omega) | (exfalso; rw [hmax] at hx; simp only [hext, szP, List.length_cons, List.length_nil] at hx; omega) | (exfalso; rw [hmax] at hx; simp only [hext, app_strP, szP, List.length_append, List.length_cons, List.length_nil] at hx; omega) | skip))
      focus (refine Done'.mk ⟨(done ++ [43], i + 1), ⟨by simp only; omega, by simp only; rw [← h2]; simp [cdC], by simp only [List.length_append, List.length_cons, List.length_nil]; omega⟩, ?_, KeptA.of [] rfl rfl (by repeat' (first | exact trivial | refine And.intro rfl ?_)) rfl ?_ ?_⟩; (first | omega | (simp only; omega)); all_goals (repeat' (first | exact trivial | (refine And.intro ?_ ?_) | (refine Exists.intro _ (And.intro rfl ?_)) | (refine RenO.opt ?_) | (refine RenO.toOpt ?_) | (refine RenO.cells ?_) | exact RenO.defs | exact RenL.nil | (refine RenL.cons ?_ ?_) | (first | (first | exact RenV.eq (congrArg (fun z => VV.sc (.string z)) (app_strP done [43])) (nameless_sc _) | exact RenV.eq (scI_eq (by omega)) (nameless_sc _)) | (with_reducible exact RenV.sc) | exact RenV.gsN | exact RenV.gsZ | exact RenV.gsL (by decide) | exact RenV.slL (by decide) | ((first | refine RenV.gsE (by (first | exact List.Mem.head _ | exact List.Mem.tail _ (List.Mem.head _) | exact List.Mem.tail _ (List.Mem.tail _ (List.Mem.head _)) | (simp; done))) ?_ | refine RenV.eq (scI_eq ?_) (nameless_sc _)); (first | rfl | omega | (simp only [List.length_append, List.length_cons, List.length_nil, List.length_map, List.length_take, List.length_drop] <;> omega) | (simp only <;> omega) | (simp <;> omega))) | exact RenV.undef) | (with_unfolding_all exact (rfl : (_ : VObj) = _)))))
    · have hn : c.toNat ≠ 32 := fun e => h32 (UInt8.toNat_inj.1 e)
      cases hfb : freeB c with
      | true =>
        have hcd : cdC c = [c] := by unfold cdC encC; rw [if_neg h32, if_pos hfb]
        rw [hcd] at h2
        simp only [hfb] at k1
        repeat' (first | with_reducible refine And.intro ?_ ?_ | ((with_reducible intro hc); (try simp only [zA, zB, zC, zD, zE, zF, zG, zH, zI, zJ, zK, zL, zM, zN, zO, zP, zQ, zR, zS, zT, zU, zV, zW] at hc); (first | (exact absurd rfl hc) | (exact absurd trivial hc) | (exfalso; omega) | skip)) | exact Is.mk rfl rfl | ((conv => whnf); first | with_reducible refine And.intro ?_ ?_ | with_reducible intro hx | exact Is.mk rfl rfl | (with_reducible first | apply Val.via | apply ValH.via) | refine ifB_intro ?_ ?_ | refine xA (by omega) ?_ | ((refine xB ?_); intro kw hk1 hk2) | refine xC (by omega) ?_ | refine xD ?_ | refine xE (by omega) ?_ | refine xF (by omega) ?_ | refine xG ?_ | refine xH ?_ | refine xI (by omega) ?_ | refine xJ (by omega) ?_ | (with_reducible refine stopA ?_) | refine Exists.intro _ (And.intro (by (first | exact hb | exact vat_of rfl rfl rfl | rfl)) ?_) | refine GOp.drawn (by rfl) (by rfl) (Nat.le_of_ble_eq_true (by rfl)) (by rfl) | refine GOp.via (by rfl) ?_ | refine GWP.drawY mixed _ (by kernel_rfl) (by rfl) ?_ | (first | (refine GCall.mk ((k1 _).mono ?_); rintro _ _ ⟨rfl, rfl⟩) | (refine GCall.mk ((k2 _).mono ?_); rintro _ _ ⟨rfl, rfl⟩)) | (with_reducible first | refine stopO ?_ | refine stopE ?_ | refine stopD ?_ | refine stopW ?_ | refine stopG ?_ | refine stopC ?_ | refine stopR ?_)))
        (all_goals (first | omega | (rw [szP]; omega) | (exfalso; rw [hmax] at hx; simp only [hext, szP, List.length_cons, List.length_nil] at hx; omega) | (exfalso; rw [hmax] at hx; simp only [hext, app_strP, szP, List.length_append, List.length_cons, List.length_nil] at hx; omega) | skip))
        focus (refine Done'.mk ⟨(done ++ [c], i + 1), ⟨by simp only; omega, by simp only; rw [← h2]; simp, by simp only [List.length_append, List.length_cons, List.length_nil]; omega⟩, ?_, KeptA.of [] rfl rfl (by repeat' (first | exact trivial | refine And.intro rfl ?_)) rfl ?_ ?_⟩; (first | omega | (simp only; omega)); all_goals (repeat' (first | exact trivial | (refine And.intro ?_ ?_) | (refine Exists.intro _ (And.intro rfl ?_)) | (refine RenO.opt ?_) | (refine RenO.toOpt ?_) | (refine RenO.cells ?_) | exact RenO.defs | exact RenL.nil | (refine RenL.cons ?_ ?_) | (first | (first | exact RenV.eq (congrArg (fun z => VV.sc (.string z)) ((congrArg (fun z => (⟨done.toArray⟩ : ByteArray) ++ z) hext).trans (app_strP done [c]))) (nameless_sc _) | exact RenV.eq (scI_eq (by omega)) (nameless_sc _)) | (with_reducible exact RenV.sc) | exact RenV.gsN | exact RenV.gsZ | exact RenV.gsL (by decide) | exact RenV.slL (by decide) | ((first | refine RenV.gsE (by (first | exact List.Mem.head _ | exact List.Mem.tail _ (List.Mem.head _) | exact List.Mem.tail _ (List.Mem.tail _ (List.Mem.head _)) | (simp; done))) ?_ | refine RenV.eq (scI_eq ?_) (nameless_sc _)); (first | rfl | omega | (simp only [List.length_append, List.length_cons, List.length_nil, List.length_map, List.length_take, List.length_drop] <;> omega) | (simp only <;> omega) | (simp <;> omega))) | exact RenV.undef) | (with_unfolding_all exact (rfl : (_ : VObj) = _)))))
      | false =>
        have hcd : cdC c = [37, hexD (c.toNat / 16), hexD (c.toNat % 16)] := by unfold cdC encC; rw [if_neg h32, hfb]; rfl
        rw [hcd] at h2
        simp only [hfb] at k1
        generalize hexD (c.toNat / 16) = d1 at *
        generalize hexD (c.toNat % 16) = d2 at *
        repeat' (first | with_reducible refine And.intro ?_ ?_ | ((with_reducible intro hc); (try simp only [zA, zB, zC, zD, zE, zF, zG, zH, zI, zJ, zK, zL, zM, zN, zO, zP, zQ, zR, zS, zT, zU, zV, zW] at hc); (first | (exact absurd rfl hc) | (exact absurd trivial hc) | (exfalso; omega) | skip)) | exact Is.mk rfl rfl | ((conv => whnf); first | with_reducible refine And.intro ?_ ?_ | with_reducible intro hx | exact Is.mk rfl rfl | (with_reducible first | apply Val.via | apply ValH.via) | refine ifB_intro ?_ ?_ | refine xA (by omega) ?_ | ((refine xB ?_); intro kw hk1 hk2) | refine xC (by omega) ?_ | refine xD ?_ | refine xE (by omega) ?_ | refine xF (by omega) ?_ | refine xG ?_ | refine xH ?_ | refine xI (by omega) ?_ | refine xJ (by omega) ?_ | (with_reducible refine stopA ?_) | refine Exists.intro _ (And.intro (by (first | exact hb | exact vat_of rfl rfl rfl | rfl)) ?_) | refine GOp.drawn (by rfl) (by rfl) (Nat.le_of_ble_eq_true (by rfl)) (by rfl) | refine GOp.via (by rfl) ?_ | refine GWP.drawY mixed _ (by kernel_rfl) (by rfl) ?_ | (first | (refine GCall.mk ((k1 _).mono ?_); rintro _ _ ⟨rfl, rfl⟩) | (refine GCall.mk ((k2 _).mono ?_); rintro _ _ ⟨rfl, rfl⟩)) | (with_reducible first | refine stopO ?_ | refine stopE ?_ | refine stopD ?_ | refine stopW ?_ | refine stopG ?_ | refine stopC ?_ | refine stopR ?_)))
        (all_goals (first | omega | (rw [szP]; omega) | (exfalso; rw [hmax] at hx; simp only [hext, szP, List.length_cons, List.length_nil] at hx; omega) | (exfalso; rw [hmax] at hx; simp only [hext, app_strP, szP, List.length_append, List.length_cons, List.length_nil] at hx; omega) | skip))
        focus (refine Done'.mk ⟨(done ++ [37, d1, d2], i + 1), ⟨by simp only; omega, by simp only; rw [← h2]; simp, by simp only [List.length_append, List.length_cons, List.length_nil]; omega⟩, ?_, KeptA.of [] rfl rfl (by repeat' (first | exact trivial | refine And.intro rfl ?_)) rfl ?_ ?_⟩; (first | omega | (simp only; omega)); all_goals (repeat' (first | exact trivial | (refine And.intro ?_ ?_) | (refine Exists.intro _ (And.intro rfl ?_)) | (refine RenO.opt ?_) | (refine RenO.toOpt ?_) | (refine RenO.cells ?_) | exact RenO.defs | exact RenL.nil | (refine RenL.cons ?_ ?_) | (first | (first | exact RenV.eq (congrArg (fun z => VV.sc (.string z)) ((congrArg (fun z => z ++ (⟨[d1, d2].toArray⟩ : ByteArray)) (app_strP done [37])).trans ((app_strP (done ++ [37]) [d1, d2]).trans (by simp)))) (nameless_sc _) | exact RenV.eq (scI_eq (by omega)) (nameless_sc _)) | (with_reducible exact RenV.sc) | exact RenV.gsN | exact RenV.gsZ | exact RenV.gsL (by decide) | exact RenV.slL (by decide) | ((first | refine RenV.gsE (by (first | exact List.Mem.head _ | exact List.Mem.tail _ (List.Mem.head _) | exact List.Mem.tail _ (List.Mem.tail _ (List.Mem.head _)) | (simp; done))) ?_ | refine RenV.eq (scI_eq ?_) (nameless_sc _)); (first | rfl | omega | (simp only [List.length_append, List.length_cons, List.length_nil, List.length_map, List.length_take, List.length_drop] <;> omega) | (simp only <;> omega) | (simp <;> omega))) | exact RenV.undef) | (with_unfolding_all exact (rfl : (_ : VObj) = _)))))
  · obtain rfl : i = l.length := by omega
    rw [List.drop_length] at h2
    have h2 : done ++ [] = codedB l := h2
    rw [List.append_nil] at h2
    subst h2
    repeat' (first | with_reducible refine And.intro ?_ ?_ | ((with_reducible intro hc); (try simp only [zA, zB, zC, zD, zE, zF, zG, zH, zI, zJ, zK, zL, zM, zN, zO, zP, zQ, zR, zS, zT, zU, zV, zW] at hc); (first | (exact absurd rfl hc) | (exact absurd trivial hc) | (exfalso; omega) | skip)) | exact Is.mk rfl rfl | ((conv => whnf); first | with_reducible refine And.intro ?_ ?_ | with_reducible intro hx | exact Is.mk rfl rfl | (with_reducible first | apply Val.via | apply ValH.via) | refine ifB_intro ?_ ?_ | refine xA (by omega) ?_ | ((refine xB ?_); intro kw hk1 hk2) | refine xC (by omega) ?_ | refine xD ?_ | refine xE (by omega) ?_ | refine xF (by omega) ?_ | refine xG ?_ | refine xH ?_ | refine xI (by omega) ?_ | refine xJ (by omega) ?_ | (with_reducible refine stopA ?_) | refine Exists.intro _ (And.intro (by (first | exact hb | exact vat_of rfl rfl rfl | rfl)) ?_) | refine GOp.drawn (by rfl) (by rfl) (Nat.le_of_ble_eq_true (by rfl)) (by rfl) | refine GOp.via (by rfl) ?_ | refine GWP.drawY mixed _ (by kernel_rfl) (by rfl) ?_ | fail | (with_reducible first | refine stopO ?_ | refine stopE ?_ | refine stopD ?_ | refine stopW ?_ | refine stopG ?_ | refine stopC ?_ | refine stopR ?_)))
    (all_goals (first | omega | (rw [szP]; omega) | (exfalso; rw [hmax] at hx; simp only [hext, szP, List.length_cons, List.length_nil] at hx; omega) | (exfalso; rw [hmax] at hx; simp only [hext, app_strP, szP, List.length_append, List.length_cons, List.length_nil] at hx; omega) | skip))
    exact Done'.mk rfl
end Go.Proofs.YtmmjgbdihgdekaaDoor

/- The document's text of pairs, walked. -/
namespace Go.Proofs.YtmmjgbdihgdekaaDoor
open Go Go.RowKit
set_option linter.unusedSimpArgs false
set_option linter.unusedVariables false
set_option maxRecDepth 100000
set_option maxHeartbeats 16000000
theorem text32_call (l : List PF) (hl : l.length ≤ 10000) (hf : ∀ f ∈ l, f.1.length ≤ 20000 ∧ f.2.length ≤ 20000) (H : Heap) : VCall Tryd.prog 37 [.ro l.length (rowsT l)] H (fun x K => x = strV (textP l) ∧ K = H) := by
  refine VCall.pure (by simp [show Nameless (.ro l.length (rowsT l)) from nameless_ro (rowsT_nameless l)]) (nameless_sc _) ?_
  refine VCall.go Tryd.func37 rfl ?_
  have hmax : (IntKind.i64.max : Int) = 9223372036854775807 := by decide
  repeat' (first | with_reducible refine And.intro ?_ ?_ | ((with_reducible intro hc); (try simp only [zA, zB, zC, zD, zE, zF, zG, zH, zI, zJ, zK, zL, zM, zN, zO, zP, zQ, zR, zS, zT, zU, zV, zW] at hc); (first | (exact absurd rfl hc) | (exact absurd trivial hc) | (exfalso; omega) | skip)) | exact Is.mk rfl rfl | ((conv => whnf); first | with_reducible refine And.intro ?_ ?_ | with_reducible intro hx | exact Is.mk rfl rfl | (with_reducible first | apply Val.via | apply ValH.via) | refine ifB_intro ?_ ?_ | refine xA (by omega) ?_ | ((refine xB ?_); intro kw hk1 hk2) | refine xC (by omega) ?_ | refine xD ?_ | refine xE (by omega) ?_ | refine xF (by omega) ?_ | refine xG ?_ | refine xH ?_ | refine xI (by omega) ?_ | refine xJ (by omega) ?_ | (with_reducible refine stopA ?_) | refine Exists.intro _ (And.intro (by rfl) ?_) | refine GOp.drawn (by rfl) (by rfl) (Nat.le_of_ble_eq_true (by rfl)) (by rfl) | refine GOp.via (by rfl) ?_ | refine GWP.drawY mixed _ (by kernel_rfl) (by rfl) ?_ | fail | (with_reducible first | refine stopO ?_ | refine stopE ?_ | refine stopD ?_ | refine stopW ?_ | refine stopG ?_ | refine stopC ?_ | refine stopR ?_)))
  (all_goals (first | omega | (rw [szP]; omega) | (exfalso; rw [hmax] at hx; simp only [app_strP, szP, List.length_append, List.length_cons, List.length_nil] at hx; omega) | skip))
  (refine GWP'.mk (GWP.loopB [] (fun (s : List UInt8 × Nat) => s.2 ≤ l.length ∧ s.1 ++ textN s.2 (l.drop s.2) = textP l ∧ s.1.length ≤ s.2 * 200000) (fun s => [(3, strV s.1), (8, iV s.2)]) (fun s => []) 0 (fun s => l.length - s.2) ([], 0) ⟨Nat.zero_le _, rfl, Nat.zero_le _⟩ ?_); (conv => whnf); refine And.intro ?_ ?_)
  · focus (refine KeptA.of [] rfl rfl (by repeat' (first | exact trivial | refine And.intro rfl ?_)) rfl ?_ ?_; all_goals (repeat' (first | exact trivial | (refine And.intro ?_ ?_) | (refine Exists.intro _ (And.intro rfl ?_)) | (refine RenO.opt ?_) | (refine RenO.toOpt ?_) | (refine RenO.cells ?_) | exact RenO.defs | exact RenL.nil | (refine RenL.cons ?_ ?_) | (first | exact RenV.of (nameless_strV []) | (with_reducible exact RenV.sc) | exact RenV.gsN | exact RenV.gsZ | exact RenV.gsL (by decide) | exact RenV.slL (by decide) | ((first | refine RenV.gsE (by (first | exact List.Mem.head _ | exact List.Mem.tail _ (List.Mem.head _) | exact List.Mem.tail _ (List.Mem.tail _ (List.Mem.head _)) | (simp; done))) ?_ | refine RenV.eq (scI_eq ?_) (nameless_sc _)); (first | rfl | omega | (simp only [List.length_append, List.length_cons, List.length_nil, List.length_map, List.length_take, List.length_drop] <;> omega) | (simp only <;> omega) | (simp <;> omega))) | exact RenV.undef) | (with_unfolding_all exact (rfl : (_ : VObj) = _)))))
  rintro ⟨done, i⟩ ⟨h1, h2, h3⟩
  simp only at h1 h2 h3 ⊢
  by_cases hil : i < l.length
  · obtain ⟨f, hfi⟩ : ∃ f, l[i]? = some f := ⟨l[i], List.getElem?_eq_getElem hil⟩
    have hfl := hf f (List.mem_of_getElem? hfi)
    have hc1 := codedB_len f.1
    have hc2 := codedB_len f.2
    have hnx : textN i (l.drop i) = (if 0 < i then [38] else []) ++ (codedB f.1 ++ [61] ++ codedB f.2) ++ textN (i + 1) (l.drop (i + 1)) := by
      obtain ⟨hi, e⟩ := List.getElem?_eq_some_iff.1 hfi
      rw [List.drop_eq_getElem_cons hi, e]
      rfl
    rw [hnx] at h2
    obtain ⟨y, x⟩ := f
    simp only at hfl hc1 hc2 h2
    have k1 := fun H => coded32_call y (by omega) H
    have k2 := fun H => coded32_call x (by omega) H
    generalize codedB y = cy at *
    generalize codedB x = cx at *
    by_cases h0 : 0 < i
    · rw [if_pos h0] at h2
      repeat' (first | with_reducible refine And.intro ?_ ?_ | ((with_reducible intro hc); (try simp only [zA, zB, zC, zD, zE, zF, zG, zH, zI, zJ, zK, zL, zM, zN, zO, zP, zQ, zR, zS, zT, zU, zV, zW] at hc); (first | (exact absurd rfl hc) | (exact absurd trivial hc) | (exfalso; omega) | skip)) | exact Is.mk rfl rfl | ((conv => whnf); first | with_reducible refine And.intro ?_ ?_ | with_reducible intro hx | exact Is.mk rfl rfl | (with_reducible first | apply Val.via | apply ValH.via) | refine ifB_intro ?_ ?_ | refine xA (by omega) ?_ | ((refine xB ?_); intro kw hk1 hk2) | refine xC (by omega) ?_ | refine xD ?_ | refine xE (by omega) ?_ | refine xF (by omega) ?_ | refine xG ?_ | refine xH ?_ | refine xI (by omega) ?_ | refine xJ (by omega) ?_ | (with_reducible refine stopA ?_) | refine Exists.intro _ (And.intro (by (first | exact vat_rowsT hfi rfl | exact vat_of rfl rfl rfl | rfl)) ?_) | refine GOp.drawn (by rfl) (by rfl) (Nat.le_of_ble_eq_true (by rfl)) (by rfl) | refine GOp.via (by rfl) ?_ | refine GWP.drawY mixed _ (by kernel_rfl) (by rfl) ?_ | (first | (refine GCall.mk ((k1 _).mono ?_); rintro _ _ ⟨rfl, rfl⟩) | (refine GCall.mk ((k2 _).mono ?_); rintro _ _ ⟨rfl, rfl⟩)) | (with_reducible first | refine stopO ?_ | refine stopE ?_ | refine stopD ?_ | refine stopW ?_ | refine stopG ?_ | refine stopC ?_ | refine stopR ?_)))
      (all_goals (first | omega | (rw [szP]; omega) | (exfalso; rw [hmax] at hx; simp only [app_strP, szP, List.length_append, List.length_cons, List.length_nil] at hx; omega) | skip))
      focus (refine Done'.mk ⟨(done ++ ([38] ++ (cy ++ [61] ++ cx)), i + 1), ⟨by simp only; omega, by simp only; rw [← h2]; simp, by simp only [List.length_append, List.length_cons, List.length_nil]; omega⟩, ?_, KeptA.of [] rfl rfl (by repeat' (first | exact trivial | refine And.intro rfl ?_)) rfl ?_ ?_⟩; (first | omega | (simp only; omega)); all_goals (repeat' (first | exact trivial | (refine And.intro ?_ ?_) | (refine Exists.intro _ (And.intro rfl ?_)) | (refine RenO.opt ?_) | (refine RenO.toOpt ?_) | (refine RenO.cells ?_) | exact RenO.defs | exact RenL.nil | (refine RenL.cons ?_ ?_) | (first | (first | exact RenV.eq (congrArg (fun z => VV.sc (.string z)) (by show ((((⟨done.toArray⟩ : ByteArray) ++ ⟨[38].toArray⟩) ++ ⟨cy.toArray⟩) ++ ⟨[61].toArray⟩) ++ ⟨cx.toArray⟩ = _; simp only [app_strP]; simp)) (nameless_sc _) | exact RenV.eq (scI_eq (by omega)) (nameless_sc _)) | (with_reducible exact RenV.sc) | exact RenV.gsN | exact RenV.gsZ | exact RenV.gsL (by decide) | exact RenV.slL (by decide) | ((first | refine RenV.gsE (by (first | exact List.Mem.head _ | exact List.Mem.tail _ (List.Mem.head _) | exact List.Mem.tail _ (List.Mem.tail _ (List.Mem.head _)) | (simp; done))) ?_ | refine RenV.eq (scI_eq ?_) (nameless_sc _)); (first | rfl | omega | (simp only [List.length_append, List.length_cons, List.length_nil, List.length_map, List.length_take, List.length_drop] <;> omega) | (simp only <;> omega) | (simp <;> omega))) | exact RenV.undef) | (with_unfolding_all exact (rfl : (_ : VObj) = _)))))
    · have h0i : i = 0 := by omega
      rw [if_neg h0] at h2
      repeat' (first | with_reducible refine And.intro ?_ ?_ | ((with_reducible intro hc); (try simp only [zA, zB, zC, zD, zE, zF, zG, zH, zI, zJ, zK, zL, zM, zN, zO, zP, zQ, zR, zS, zT, zU, zV, zW] at hc); (first | (exact absurd rfl hc) | (exact absurd trivial hc) | (exfalso; omega) | skip)) | exact Is.mk rfl rfl | ((conv => whnf); first | with_reducible refine And.intro ?_ ?_ | with_reducible intro hx | exact Is.mk rfl rfl | (with_reducible first | apply Val.via | apply ValH.via) | refine ifB_intro ?_ ?_ | refine xA (by omega) ?_ | ((refine xB ?_); intro kw hk1 hk2) | refine xC (by omega) ?_ | refine xD ?_ | refine xE (by omega) ?_ | refine xF (by omega) ?_ | refine xG ?_ | refine xH ?_ | refine xI (by omega) ?_ | refine xJ (by omega) ?_ | (with_reducible refine stopA ?_) | refine Exists.intro _ (And.intro (by (first | exact vat_rowsT hfi rfl | exact vat_of rfl rfl rfl | rfl)) ?_) | refine GOp.drawn (by rfl) (by rfl) (Nat.le_of_ble_eq_true (by rfl)) (by rfl) | refine GOp.via (by rfl) ?_ | refine GWP.drawY mixed _ (by kernel_rfl) (by rfl) ?_ | (first | (refine GCall.mk ((k1 _).mono ?_); rintro _ _ ⟨rfl, rfl⟩) | (refine GCall.mk ((k2 _).mono ?_); rintro _ _ ⟨rfl, rfl⟩)) | (with_reducible first | refine stopO ?_ | refine stopE ?_ | refine stopD ?_ | refine stopW ?_ | refine stopG ?_ | refine stopC ?_ | refine stopR ?_)))
      (all_goals (first | omega | (rw [szP]; omega) | (exfalso; rw [hmax] at hx; simp only [app_strP, szP, List.length_append, List.length_cons, List.length_nil] at hx; omega) | skip))
      focus (refine Done'.mk ⟨(done ++ (cy ++ [61] ++ cx), i + 1), ⟨by simp only; omega, by simp only; rw [← h2]; simp, by simp only [List.length_append, List.length_cons, List.length_nil]; omega⟩, ?_, KeptA.of [] rfl rfl (by repeat' (first | exact trivial | refine And.intro rfl ?_)) rfl ?_ ?_⟩; (first | omega | (simp only; omega)); all_goals (repeat' (first | exact trivial | (refine And.intro ?_ ?_) | (refine Exists.intro _ (And.intro rfl ?_)) | (refine RenO.opt ?_) | (refine RenO.toOpt ?_) | (refine RenO.cells ?_) | exact RenO.defs | exact RenL.nil | (refine RenL.cons ?_ ?_) | (first | (first | exact RenV.eq (congrArg (fun z => VV.sc (.string z)) (by show (((⟨done.toArray⟩ : ByteArray) ++ ⟨cy.toArray⟩) ++ ⟨[61].toArray⟩) ++ ⟨cx.toArray⟩ = _; simp only [app_strP]; simp)) (nameless_sc _) | exact RenV.eq (scI_eq (by omega)) (nameless_sc _)) | (with_reducible exact RenV.sc) | exact RenV.gsN | exact RenV.gsZ | exact RenV.gsL (by decide) | exact RenV.slL (by decide) | ((first | refine RenV.gsE (by (first | exact List.Mem.head _ | exact List.Mem.tail _ (List.Mem.head _) | exact List.Mem.tail _ (List.Mem.tail _ (List.Mem.head _)) | (simp; done))) ?_ | refine RenV.eq (scI_eq ?_) (nameless_sc _)); (first | rfl | omega | (simp only [List.length_append, List.length_cons, List.length_nil, List.length_map, List.length_take, List.length_drop] <;> omega) | (simp only <;> omega) | (simp <;> omega))) | exact RenV.undef) | (with_unfolding_all exact (rfl : (_ : VObj) = _)))))
  · obtain rfl : i = l.length := by omega
    rw [List.drop_length] at h2
    have h2 : done ++ [] = textP l := h2
    rw [List.append_nil] at h2
    subst h2
    repeat' (first | with_reducible refine And.intro ?_ ?_ | ((with_reducible intro hc); (try simp only [zA, zB, zC, zD, zE, zF, zG, zH, zI, zJ, zK, zL, zM, zN, zO, zP, zQ, zR, zS, zT, zU, zV, zW] at hc); (first | (exact absurd rfl hc) | (exact absurd trivial hc) | (exfalso; omega) | skip)) | exact Is.mk rfl rfl | ((conv => whnf); first | with_reducible refine And.intro ?_ ?_ | with_reducible intro hx | exact Is.mk rfl rfl | (with_reducible first | apply Val.via | apply ValH.via) | refine ifB_intro ?_ ?_ | refine xA (by omega) ?_ | ((refine xB ?_); intro kw hk1 hk2) | refine xC (by omega) ?_ | refine xD ?_ | refine xE (by omega) ?_ | refine xF (by omega) ?_ | refine xG ?_ | refine xH ?_ | refine xI (by omega) ?_ | refine xJ (by omega) ?_ | (with_reducible refine stopA ?_) | refine Exists.intro _ (And.intro (by rfl) ?_) | refine GOp.drawn (by rfl) (by rfl) (Nat.le_of_ble_eq_true (by rfl)) (by rfl) | refine GOp.via (by rfl) ?_ | refine GWP.drawY mixed _ (by kernel_rfl) (by rfl) ?_ | fail | (with_reducible first | refine stopO ?_ | refine stopE ?_ | refine stopD ?_ | refine stopW ?_ | refine stopG ?_ | refine stopC ?_ | refine stopR ?_)))
    (all_goals (first | omega | (rw [szP]; omega) | (exfalso; rw [hmax] at hx; simp only [app_strP, szP, List.length_append, List.length_cons, List.length_nil] at hx; omega) | skip))
    exact Done'.mk rfl
end Go.Proofs.YtmmjgbdihgdekaaDoor

