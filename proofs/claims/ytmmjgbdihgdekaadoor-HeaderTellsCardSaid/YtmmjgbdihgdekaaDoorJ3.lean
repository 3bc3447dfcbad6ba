/- split: the block and the body. -/
import Derived.Test.YtmmjgbdihgdekaaDoorJ2
namespace Go.Proofs.YtmmjgbdihgdekaaDoor
open Go Go.RowKit
set_option linter.unusedSimpArgs false
set_option linter.unusedVariables false
set_option maxRecDepth 100000
set_option maxHeartbeats 4000000
theorem spH_line : ∀ (p r cur : List UInt8), 10 ∉ p → spH (p ++ 10 :: r) cur = if trimCR (cur ++ p) = [] then ([], r) else (cur ++ p ++ 10 :: (spH r []).1, (spH r []).2)
  | [], r, cur, _ => by
    rw [List.nil_append, List.append_nil]
    show (if (10 : UInt8) = 10 then _ else _) = _
    rw [if_pos rfl]
  | c :: p, r, cur, h => by
    have hc : ¬ c = 10 := fun e => h (by rw [e]; exact List.mem_cons_self)
    rw [List.cons_append]
    show (if c = 10 then _ else _) = _
    rw [if_neg hc, spH_line p r (cur ++ [c]) (fun hm => h (List.mem_cons_of_mem _ hm)), List.append_assoc]
    rfl
theorem spH_last : ∀ (p cur : List UInt8), 10 ∉ p → spH p cur = (cur ++ p, [])
  | [], cur, _ => by rw [List.append_nil]; rfl
  | c :: p, cur, h => by
    have hc : ¬ c = 10 := fun e => h (by rw [e]; exact List.mem_cons_self)
    show (if c = 10 then _ else _) = _
    rw [if_neg hc, spH_last p (cur ++ [c]) (fun hm => h (List.mem_cons_of_mem _ hm)), List.append_assoc]
    rfl
/-- A text up to its first line feed, and behind it. -/
theorem line_at {r : List UInt8} (h : r.contains 10 = true) : r = r.take (r.idxOf 10) ++ 10 :: r.drop (r.idxOf 10 + 1) ∧ 10 ∉ r.take (r.idxOf 10) ∧ r.idxOf 10 < r.length := by
  have hm : (10 : UInt8) ∈ r := by simpa using h
  have hl := List.idxOf_lt_length_of_mem hm
  refine ⟨?_, ?_, hl⟩
  · have : r[r.idxOf 10]'hl = 10 := List.getElem_idxOf hl
    conv => lhs; rw [← List.take_append_drop (r.idxOf 10) r, List.drop_eq_getElem_cons hl, this]
  · intro hm2
    obtain ⟨i, hi, e⟩ := List.getElem_of_mem hm2
    rw [List.length_take] at hi
    rw [List.getElem_take] at e
    have := List.not_of_lt_findIdx (p := (· == (10 : UInt8))) (xs := r) (i := i) (by
      have : r.findIdx (· == (10 : UInt8)) = r.idxOf 10 := rfl
      omega)
    simp [e] at this
theorem split_call (t : List UInt8) (ht : t.length ≤ 100000) (H : Heap) : VCall Tryd.prog 92 [roB t] H (fun v K => v = .tp [roB (spH t []).1, roB (spH t []).2] ∧ K = H) := by
  refine VCall.frozen (Q := fun v K => Frz K v (.tp [roB (spH t []).1, roB (spH t []).2])) (by simp [nameless_roB]) ?_ (fun v K h => h)
  refine VCall.go Tryd.func92 rfl ?_
  repeat' (first | with_reducible refine And.intro ?_ ?_ | ((with_reducible intro hc); (try simp only [zA, zB, zC, zD, zE, zF, zG, zH, zI, zJ, zK, zL, zM, zN, zO, zP, zQ, zR, zS, zT, zU, zV, zW] at hc); (first | (exact absurd rfl hc) | (exact absurd trivial hc) | (exfalso; omega) | skip)) | ((conv => whnf); first | with_reducible refine And.intro ?_ ?_ | refine ifB_intro ?_ ?_ | refine xA (by omega) ?_ | ((refine xB ?_); intro kw hk1 hk2) | refine xC (by omega) ?_ | refine xD ?_ | refine xE (by omega) ?_ | refine xF (by omega) ?_ | refine xG ?_ | refine xH ?_ | refine xI (by omega) ?_ | refine xJ (by omega) ?_ | (with_reducible refine stopA ?_) | refine Exists.intro _ (And.intro (by rfl) ?_) | refine GOp.via (by rfl) ?_ | (with_reducible first | refine stopO ?_ | refine stopE ?_ | refine stopD ?_ | refine stopW ?_ | refine stopG ?_ | refine stopC ?_ | refine stopR ?_)))
  (refine GWP'.mk (GWP.loopB [] (fun (a : Nat) => a ≤ t.length ∧ (spH t []).1 = t.take a ++ (spH (t.drop a) []).1 ∧ (spH t []).2 = (spH (t.drop a) []).2) (fun a => [(4, iV a)]) (fun a => []) 0 (fun a => t.length - a) 0 ⟨Nat.zero_le _, rfl, rfl⟩ ?_); (conv => whnf); refine And.intro ?_ ?_)
  · focus (refine KeptA.of [] rfl rfl (by repeat' (first | exact trivial | refine And.intro rfl ?_)) rfl ?_ ?_; all_goals (repeat' (first | exact trivial | (refine And.intro ?_ ?_) | (refine Exists.intro _ (And.intro rfl ?_)) | (refine RenO.opt ?_) | (refine RenO.toOpt ?_) | (refine RenO.cells ?_) | exact RenO.defs | exact RenL.nil | (refine RenL.cons ?_ ?_) | (first | fail | (with_reducible exact RenV.sc) | exact RenV.gsN | exact RenV.gsZ | exact RenV.gsL (by decide) | exact RenV.slL (by decide) | ((first | refine RenV.gsE (by (first | exact List.Mem.head _ | exact List.Mem.tail _ (List.Mem.head _) | exact List.Mem.tail _ (List.Mem.tail _ (List.Mem.head _)) | (simp; done))) ?_ | refine RenV.eq (scI_eq ?_) (nameless_sc _)); (first | rfl | omega | (simp only [List.length_append, List.length_cons, List.length_nil, List.length_map, List.length_take, List.length_drop] <;> omega) | (simp only <;> omega) | (simp <;> omega))) | exact RenV.undef) | (with_unfolding_all exact (rfl : (_ : VObj) = _)))))
  rintro a ⟨h1, h2, h3⟩
  simp only at h1 h2 h3 ⊢
  by_cases hal : a < t.length
  · have hsl : VV.ro (t.length - ((a : Int)).toNat) (((t.map bV).drop (((a : Int)).toNat * 1)).take ((t.length - ((a : Int)).toNat) * 1)) = roB (t.drop a) := (roB_slice (l := t) rfl (by omega) (by omega)).trans (congrArg roB (by rw [Int.toNat_natCast, List.take_of_length_le (by simp)]))
    repeat' (first | with_reducible refine And.intro ?_ ?_ | ((with_reducible intro hc); (try simp only [zA, zB, zC, zD, zE, zF, zG, zH, zI, zJ, zK, zL, zM, zN, zO, zP, zQ, zR, zS, zT, zU, zV, zW] at hc); (first | (exact absurd rfl hc) | (exact absurd trivial hc) | (exfalso; omega) | skip)) | exact Is.mk rfl rfl | ((conv => whnf); first | with_reducible refine And.intro ?_ ?_ | with_reducible intro hx | exact Is.mk rfl rfl | (with_reducible first | apply Val.via | apply ValH.via) | refine ifB_intro ?_ ?_ | refine xA (by omega) ?_ | ((refine xB ?_); intro kw hk1 hk2) | refine xC (by omega) ?_ | refine xD ?_ | refine xE (by omega) ?_ | refine xF (by omega) ?_ | refine xG ?_ | refine xH ?_ | refine xI (by omega) ?_ | refine xJ (by omega) ?_ | (with_reducible refine stopA ?_) | refine Exists.intro _ (And.intro (by rfl) ?_) | refine GOp.drawn (by rfl) (by rfl) (Nat.le_of_ble_eq_true (by rfl)) (by rfl) | refine GOp.via (by rfl) ?_ | refine GWP.drawY mixed _ (by kernel_rfl) (by rfl) ?_ | fail | (with_reducible first | refine stopO ?_ | refine stopE ?_ | refine stopD ?_ | refine stopW ?_ | refine stopG ?_ | refine stopC ?_ | refine stopR ?_)))
    all_goals (first | omega | skip)
    refine GCall'.mk (VCall.arg21 hsl ((indexByte_call (t.drop a) 10 _).mono ?_))
    rintro _ _ ⟨rfl, rfl⟩
    by_cases hc10 : (t.drop a).contains 10 = true
    · obtain ⟨e1, e2, e3⟩ := line_at hc10
      have hix : idxB (t.drop a) 10 = ((t.drop a).idxOf 10 : Nat) := by unfold idxB; rw [if_pos hc10]
      rw [hix]
      rw [List.length_drop] at e3
      have hln : ((t.drop a).take ((t.drop a).idxOf 10)) = (t.drop a).take ((t.drop a).idxOf 10) := rfl
      have hsp : spH (t.drop a) [] = if trimCR ((t.drop a).take ((t.drop a).idxOf 10)) = [] then ([], (t.drop a).drop ((t.drop a).idxOf 10 + 1)) else ((t.drop a).take ((t.drop a).idxOf 10) ++ 10 :: (spH ((t.drop a).drop ((t.drop a).idxOf 10 + 1)) []).1, (spH ((t.drop a).drop ((t.drop a).idxOf 10 + 1)) []).2) := by
        conv => lhs; rw [e1]
        rw [spH_line _ _ _ e2, List.nil_append]
      generalize (t.drop a).idxOf 10 = k at *
      have hln : VV.ro (((a : Int) + (k : Int)).toNat - ((a : Int)).toNat) (((t.map bV).drop (((a : Int)).toNat * 1)).take ((((a : Int) + (k : Int)).toNat - ((a : Int)).toNat) * 1)) = roB ((t.drop a).take k) := (roB_slice (l := t) rfl (by omega) (by omega)).trans (congrArg roB (by rw [Int.toNat_natCast, show ((a : Int) + (k : Int)).toNat - a = k by omega]))
      have htk : (t.drop a).take (k + 1) = (t.drop a).take k ++ [10] := by
        conv => lhs; rw [e1]
        have hl : ((t.drop a).take k).length = k := by simp; omega
        rw [List.take_append, List.take_of_length_le (by omega), hl, show k + 1 - k = 1 by omega]
        rfl
      have hta : t.take (a + k + 1) = t.take a ++ ((t.drop a).take k ++ [10]) := by
        rw [← htk, ← List.take_add, Nat.add_assoc]
      have hda : (t.drop a).drop (k + 1) = t.drop (a + k + 1) := by rw [List.drop_drop, Nat.add_assoc]
      rw [hda] at hsp
      repeat' (first | with_reducible refine And.intro ?_ ?_ | ((with_reducible intro hc); (try simp only [zA, zB, zC, zD, zE, zF, zG, zH, zI, zJ, zK, zL, zM, zN, zO, zP, zQ, zR, zS, zT, zU, zV, zW] at hc); (first | (exact absurd rfl hc) | (exact absurd trivial hc) | (exfalso; omega) | skip)) | exact Is.mk rfl rfl | ((conv => whnf); first | with_reducible refine And.intro ?_ ?_ | with_reducible intro hx | exact Is.mk rfl rfl | (with_reducible first | apply Val.via | apply ValH.via) | refine ifB_intro ?_ ?_ | refine xA (by omega) ?_ | ((refine xB ?_); intro kw hk1 hk2) | refine xC (by omega) ?_ | refine xD ?_ | refine xE (by omega) ?_ | refine xF (by omega) ?_ | refine xG ?_ | refine xH ?_ | refine xI (by omega) ?_ | refine xJ (by omega) ?_ | (with_reducible refine stopA ?_) | refine Exists.intro _ (And.intro (by rfl) ?_) | refine GOp.drawn (by rfl) (by rfl) (Nat.le_of_ble_eq_true (by rfl)) (by rfl) | refine GOp.via (by rfl) ?_ | refine GWP.drawY mixed _ (by kernel_rfl) (by rfl) ?_ | fail | (with_reducible first | refine stopO ?_ | refine stopE ?_ | refine stopD ?_ | refine stopW ?_ | refine stopG ?_ | refine stopC ?_ | refine stopR ?_)))
      all_goals (first | omega | skip)
      refine GCall'.mk (VCall.arg21 hln ((trimSuf_call _ _ rfl (by simp; omega)).mono ?_))
      rintro _ _ ⟨rfl, rfl⟩
      by_cases he : trimCR ((t.drop a).take k) = []
      · rw [if_pos he] at hsp
        rw [he]
        repeat' (first | with_reducible refine And.intro ?_ ?_ | ((with_reducible intro hc); (try simp only [zA, zB, zC, zD, zE, zF, zG, zH, zI, zJ, zK, zL, zM, zN, zO, zP, zQ, zR, zS, zT, zU, zV, zW] at hc); (first | (exact absurd rfl hc) | (exact absurd trivial hc) | (exfalso; omega) | skip)) | exact Is.mk rfl rfl | ((conv => whnf); first | with_reducible refine And.intro ?_ ?_ | with_reducible intro hx | exact Is.mk rfl rfl | (with_reducible first | apply Val.via | apply ValH.via) | refine ifB_intro ?_ ?_ | refine xA (by omega) ?_ | ((refine xB ?_); intro kw hk1 hk2) | refine xC (by omega) ?_ | refine xD ?_ | refine xE (by omega) ?_ | refine xF (by omega) ?_ | refine xG ?_ | refine xH ?_ | refine xI (by omega) ?_ | refine xJ (by omega) ?_ | (with_reducible refine stopA ?_) | refine Exists.intro _ (And.intro (by rfl) ?_) | refine GOp.drawn (by rfl) (by rfl) (Nat.le_of_ble_eq_true (by rfl)) (by rfl) | refine GOp.via (by rfl) ?_ | refine GWP.drawY mixed _ (by kernel_rfl) (by rfl) ?_ | fail | (with_reducible first | refine stopO ?_ | refine stopE ?_ | refine stopD ?_ | refine stopW ?_ | refine stopG ?_ | refine stopC ?_ | refine stopR ?_)))
        all_goals (first | omega | skip)
        have w1 : VV.ro (((a : Int)).toNat - 0) (((t.map bV).drop (0 * 1)).take ((((a : Int)).toNat - 0) * 1)) = roB (spH t []).1 := (roB_slice (l := t) rfl (by omega) (by omega)).trans (congrArg roB (by rw [h2, hsp]; simp))
        have w2 : VV.ro (t.length - ((a : Int) + (k : Int) + 1).toNat) (((t.map bV).drop (((a : Int) + (k : Int) + 1).toNat * 1)).take ((t.length - ((a : Int) + (k : Int) + 1).toNat) * 1)) = roB (spH t []).2 := (roB_slice (l := t) rfl (by omega) (by omega)).trans (congrArg roB (by rw [h3, hsp, show ((a : Int) + (k : Int) + 1).toNat = a + k + 1 by omega, List.take_of_length_le (by simp)]))
        exact Done'.mk (Frz.eq (tp2 w1 w2) (nameless_tp (by simp [nameless_roB])))
      · rw [if_neg he] at hsp
        have hne : ¬ (trimCR ((t.drop a).take k)).length = 0 := fun h => he (List.eq_nil_of_length_eq_zero h)
        generalize trimCR ((t.drop a).take k) = x at *
        repeat' (first | with_reducible refine And.intro ?_ ?_ | ((with_reducible intro hc); (try simp only [zA, zB, zC, zD, zE, zF, zG, zH, zI, zJ, zK, zL, zM, zN, zO, zP, zQ, zR, zS, zT, zU, zV, zW] at hc); (first | (exact absurd rfl hc) | (exact absurd trivial hc) | (exfalso; omega) | skip)) | exact Is.mk rfl rfl | ((conv => whnf); first | with_reducible refine And.intro ?_ ?_ | with_reducible intro hx | exact Is.mk rfl rfl | (with_reducible first | apply Val.via | apply ValH.via) | refine ifB_intro ?_ ?_ | refine xA (by omega) ?_ | ((refine xB ?_); intro kw hk1 hk2) | refine xC (by omega) ?_ | refine xD ?_ | refine xE (by omega) ?_ | refine xF (by omega) ?_ | refine xG ?_ | refine xH ?_ | refine xI (by omega) ?_ | refine xJ (by omega) ?_ | (with_reducible refine stopA ?_) | refine Exists.intro _ (And.intro (by rfl) ?_) | refine GOp.drawn (by rfl) (by rfl) (Nat.le_of_ble_eq_true (by rfl)) (by rfl) | refine GOp.via (by rfl) ?_ | refine GWP.drawY mixed _ (by kernel_rfl) (by rfl) ?_ | fail | (with_reducible first | refine stopO ?_ | refine stopE ?_ | refine stopD ?_ | refine stopW ?_ | refine stopG ?_ | refine stopC ?_ | refine stopR ?_)))
        all_goals (first | omega | skip)
        focus (refine Done'.mk ⟨(a + k + 1), ⟨by omega, by rw [h2, hsp, hta]; simp, by rw [h3, hsp]⟩, ?_, KeptA.of [] rfl rfl (by repeat' (first | exact trivial | refine And.intro rfl ?_)) rfl ?_ ?_⟩; (first | omega | (simp only; omega)); all_goals (repeat' (first | exact trivial | (refine And.intro ?_ ?_) | (refine Exists.intro _ (And.intro rfl ?_)) | (refine RenO.opt ?_) | (refine RenO.toOpt ?_) | (refine RenO.cells ?_) | exact RenO.defs | exact RenL.nil | (refine RenL.cons ?_ ?_) | (first | exact RenV.eq (scI_eq (by omega)) (nameless_sc _) | (with_reducible exact RenV.sc) | exact RenV.gsN | exact RenV.gsZ | exact RenV.gsL (by decide) | exact RenV.slL (by decide) | ((first | refine RenV.gsE (by (first | exact List.Mem.head _ | exact List.Mem.tail _ (List.Mem.head _) | exact List.Mem.tail _ (List.Mem.tail _ (List.Mem.head _)) | (simp; done))) ?_ | refine RenV.eq (scI_eq ?_) (nameless_sc _)); (first | rfl | omega | (simp only [List.length_append, List.length_cons, List.length_nil, List.length_map, List.length_take, List.length_drop] <;> omega) | (simp only <;> omega) | (simp <;> omega))) | exact RenV.undef) | (with_unfolding_all exact (rfl : (_ : VObj) = _)))))
    · have hix : idxB (t.drop a) 10 = -1 := by unfold idxB; rw [if_neg hc10]
      have hsp : spH (t.drop a) [] = (t.drop a, []) := spH_last _ _ (by simpa using hc10)
      rw [hix]
      repeat' (first | with_reducible refine And.intro ?_ ?_ | ((with_reducible intro hc); (try simp only [zA, zB, zC, zD, zE, zF, zG, zH, zI, zJ, zK, zL, zM, zN, zO, zP, zQ, zR, zS, zT, zU, zV, zW] at hc); (first | (exact absurd rfl hc) | (exact absurd trivial hc) | (exfalso; omega) | skip)) | exact Is.mk rfl rfl | ((conv => whnf); first | with_reducible refine And.intro ?_ ?_ | with_reducible intro hx | exact Is.mk rfl rfl | (with_reducible first | apply Val.via | apply ValH.via) | refine ifB_intro ?_ ?_ | refine xA (by omega) ?_ | ((refine xB ?_); intro kw hk1 hk2) | refine xC (by omega) ?_ | refine xD ?_ | refine xE (by omega) ?_ | refine xF (by omega) ?_ | refine xG ?_ | refine xH ?_ | refine xI (by omega) ?_ | refine xJ (by omega) ?_ | (with_reducible refine stopA ?_) | refine Exists.intro _ (And.intro (by rfl) ?_) | refine GOp.drawn (by rfl) (by rfl) (Nat.le_of_ble_eq_true (by rfl)) (by rfl) | refine GOp.via (by rfl) ?_ | refine GWP.drawY mixed _ (by kernel_rfl) (by rfl) ?_ | fail | (with_reducible first | refine stopO ?_ | refine stopE ?_ | refine stopD ?_ | refine stopW ?_ | refine stopG ?_ | refine stopC ?_ | refine stopR ?_)))
      all_goals (first | omega | skip)
      rw [hsp, List.take_append_drop] at h2
      rw [hsp] at h3
      rw [h2, h3]
      exact Done'.mk (Frz.tp (.cons (Frz.of (nameless_roB t)) (.cons Frz.nil0 .nil)))
  · obtain rfl : a = t.length := by omega
    have hsp : spH (t.drop t.length) [] = ([], []) := by rw [List.drop_length]; rfl
    repeat' (first | with_reducible refine And.intro ?_ ?_ | ((with_reducible intro hc); (try simp only [zA, zB, zC, zD, zE, zF, zG, zH, zI, zJ, zK, zL, zM, zN, zO, zP, zQ, zR, zS, zT, zU, zV, zW] at hc); (first | (exact absurd rfl hc) | (exact absurd trivial hc) | (exfalso; omega) | skip)) | exact Is.mk rfl rfl | ((conv => whnf); first | with_reducible refine And.intro ?_ ?_ | with_reducible intro hx | exact Is.mk rfl rfl | (with_reducible first | apply Val.via | apply ValH.via) | refine ifB_intro ?_ ?_ | refine xA (by omega) ?_ | ((refine xB ?_); intro kw hk1 hk2) | refine xC (by omega) ?_ | refine xD ?_ | refine xE (by omega) ?_ | refine xF (by omega) ?_ | refine xG ?_ | refine xH ?_ | refine xI (by omega) ?_ | refine xJ (by omega) ?_ | (with_reducible refine stopA ?_) | refine Exists.intro _ (And.intro (by rfl) ?_) | refine GOp.drawn (by rfl) (by rfl) (Nat.le_of_ble_eq_true (by rfl)) (by rfl) | refine GOp.via (by rfl) ?_ | refine GWP.drawY mixed _ (by kernel_rfl) (by rfl) ?_ | fail | (with_reducible first | refine stopO ?_ | refine stopE ?_ | refine stopD ?_ | refine stopW ?_ | refine stopG ?_ | refine stopC ?_ | refine stopR ?_)))
    all_goals (first | omega | skip)
    rw [hsp, List.take_length, List.append_nil] at h2
    rw [hsp] at h3
    rw [h2, h3]
    exact Done'.mk (Frz.tp (.cons (Frz.of (nameless_roB t)) (.cons Frz.nil0 .nil)))
end Go.Proofs.YtmmjgbdihgdekaaDoor
