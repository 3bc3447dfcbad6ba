/- HasSuffix, TrimSuffix, Count of a byte. -/
import Derived.Test.YtmmjgbdihgdekaaDoorJ1
import Derived.Lib.Bytealg
namespace Go.Proofs.YtmmjgbdihgdekaaDoor
open Go Go.RowKit
set_option linter.unusedSimpArgs false
set_option linter.unusedVariables false
set_option maxRecDepth 100000
set_option maxHeartbeats 4000000
theorem suf13 (t : List UInt8) (h : 1 ≤ t.length) : (t.drop (t.length - 1) == [13]) = (t.getLast? == some 13) := by
  have hn : t ≠ [] := by intro e; subst e; simp at h
  have e : t = t.dropLast ++ [t.getLast hn] := (List.dropLast_concat_getLast hn).symm
  have hl : t.dropLast.length = t.length - 1 := List.length_dropLast
  have e2 : t.drop (t.length - 1) = [t.getLast hn] := by
    rw [← hl]
    conv => lhs; rw [e]
    rw [List.drop_append_of_le_length (by simp)]
    simp
  rw [e2, List.getLast?_eq_some_getLast hn]
  rw [Bool.eq_iff_iff]
  simp
theorem cut1 (t : List UInt8) (h : 1 ≤ t.length) : VV.ro (t.length - ((t.length : Int) - 1).toNat) (((t.map bV).drop (((t.length : Int) - 1).toNat * 1)).take ((t.length - ((t.length : Int) - 1).toNat) * 1)) = roB (t.drop (t.length - 1)) := by
  have q : ((t.length : Int) - 1).toNat = t.length - 1 := by omega
  rw [q]
  exact (roB_slice rfl (by omega) (by omega)).trans (congrArg roB (List.take_of_length_le (by simp)))
theorem hasSuf_call (t : List UInt8) (H : Heap) {b : Nat} {c0 : Option Nat} (hg : H.get b = some (.cells true [bV 13])) (ht : t.length ≤ 100000) : VCall Tryd.prog 165 [roB t, .sl b 0 1 c0 1] H (fun x K => x = booV (t.getLast? == some 13) ∧ K = H) := by
  refine VCall.viewed (args' := [roB t, .ro 1 [bV 13]]) (Q := fun v K => v = booV (t.getLast? == some 13)) (.cons (View.of (nameless_roB t)) (.cons ?_ .nil)) ?_ (fun v K e => by subst e; exact Frx.of (exact_sc _))
  · exact View.sl (H := H) (b := b) (o := 0) (n := 1) (z := 1) (c := c0) hg (by simp) (nameless_map nameless_bV [13])
  · refine VCall.go Tryd.func165 rfl ?_
    repeat' (first | with_reducible refine And.intro ?_ ?_ | ((with_reducible intro hc); (try simp only [zA, zB, zC, zD, zE, zF, zG, zH, zI, zJ, zK, zL, zM, zN, zO, zP, zQ, zR, zS, zT, zU, zV, zW] at hc); (first | (exact absurd rfl hc) | (exact absurd trivial hc) | (exfalso; omega) | skip)) | ((conv => whnf); first | with_reducible refine And.intro ?_ ?_ | refine ifB_intro ?_ ?_ | refine xA (by omega) ?_ | ((refine xB ?_); intro kw hk1 hk2) | refine xC (by omega) ?_ | refine xD ?_ | refine xE (by omega) ?_ | refine xF (by omega) ?_ | refine xG ?_ | refine xH ?_ | refine xI (by omega) ?_ | refine xJ (by omega) ?_ | (with_reducible refine stopA ?_) | refine Exists.intro _ (And.intro (by rfl) ?_) | refine GOp.via (by rfl) ?_ | (with_reducible first | refine stopO ?_ | refine stopE ?_ | refine stopD ?_ | refine stopW ?_ | refine stopG ?_ | refine stopC ?_ | refine stopR ?_)))
    all_goals (first | omega | skip)
    · refine GCall'.mk (VCall.arg21 (cut1 t (by omega)) ((equal_call (t.drop (t.length - 1)) [13] _).mono ?_))
      rintro _ _ ⟨rfl, rfl⟩
      rw [suf13 t (by omega)]
      repeat' (first | with_reducible refine And.intro ?_ ?_ | ((with_reducible intro hc); (try simp only [zA, zB, zC, zD, zE, zF, zG, zH, zI, zJ, zK, zL, zM, zN, zO, zP, zQ, zR, zS, zT, zU, zV, zW] at hc); (first | (exact absurd rfl hc) | (exact absurd trivial hc) | (exfalso; omega) | skip)) | ((conv => whnf); first | with_reducible refine And.intro ?_ ?_ | refine ifB_intro ?_ ?_ | refine xA (by omega) ?_ | ((refine xB ?_); intro kw hk1 hk2) | refine xC (by omega) ?_ | refine xD ?_ | refine xE (by omega) ?_ | refine xF (by omega) ?_ | refine xG ?_ | refine xH ?_ | refine xI (by omega) ?_ | refine xJ (by omega) ?_ | (with_reducible refine stopA ?_) | refine Exists.intro _ (And.intro (by rfl) ?_) | refine GOp.via (by rfl) ?_ | (with_reducible first | refine stopO ?_ | refine stopE ?_ | refine stopD ?_ | refine stopW ?_ | refine stopG ?_ | refine stopC ?_ | refine stopR ?_)))
      exact Done'.mk rfl
    · have : t = [] := List.eq_nil_of_length_eq_zero (by omega)
      subst this
      exact Done'.mk rfl
theorem trimSuf_call (t : List UInt8) (H : Heap) {b : Nat} {c0 : Option Nat} (hg : H.get b = some (.cells true [bV 13])) (ht : t.length ≤ 100000) : VCall Tryd.prog 134 [roB t, .sl b 0 1 c0 1] H (fun x K => x = roB (trimCR t) ∧ K = H) := by
  have hs := hasSuf_call t H (c0 := c0) hg ht
  refine VCall.go Tryd.func134 rfl ?_
  cases h13 : t.getLast? == some 13 with
  | true =>
    rw [h13] at hs
    have hl : 1 ≤ t.length := by
      cases t with
      | nil => simp at h13
      | cons a r => simp
    repeat' (first | with_reducible refine And.intro ?_ ?_ | ((with_reducible intro hc); (try simp only [zA, zB, zC, zD, zE, zF, zG, zH, zI, zJ, zK, zL, zM, zN, zO, zP, zQ, zR, zS, zT, zU, zV, zW] at hc); (first | (exact absurd rfl hc) | (exact absurd trivial hc) | (exfalso; omega) | skip)) | exact Is.mk rfl rfl | ((conv => whnf); first | with_reducible refine And.intro ?_ ?_ | with_reducible intro hx | exact Is.mk rfl rfl | (with_reducible first | apply Val.via | apply ValH.via) | refine ifB_intro ?_ ?_ | refine xA (by omega) ?_ | ((refine xB ?_); intro kw hk1 hk2) | refine xC (by omega) ?_ | refine xD ?_ | refine xE (by omega) ?_ | refine xF (by omega) ?_ | refine xG ?_ | refine xH ?_ | refine xI (by omega) ?_ | refine xJ (by omega) ?_ | (with_reducible refine stopA ?_) | refine Exists.intro _ (And.intro (by rfl) ?_) | refine GOp.drawn (by rfl) (by rfl) (Nat.le_of_ble_eq_true (by rfl)) (by rfl) | refine GOp.via (by rfl) ?_ | refine GWP.drawY mixed _ (by kernel_rfl) (by rfl) ?_ | (refine GCall.mk ((hs).mono ?_); rintro _ _ ⟨rfl, rfl⟩) | (with_reducible first | refine stopO ?_ | refine stopE ?_ | refine stopD ?_ | refine stopW ?_ | refine stopG ?_ | refine stopC ?_ | refine stopR ?_)))
    all_goals (first | omega | skip)
    refine Done'.mk ⟨?_, rfl⟩
    have e : trimCR t = t.take (t.length - 1) := by
      unfold trimCR
      rw [if_pos (beq_iff_eq.1 h13), List.dropLast_eq_take]
    rw [e]
    have := roB_slice (l := t) (z := 1) (i := 0) (j := ((t.length : Int) - 1).toNat) rfl (by omega) (by omega)
    refine this.trans (congrArg roB ?_)
    rw [show ((t.length : Int) - 1).toNat = t.length - 1 by omega]
    rfl
  | false =>
    rw [h13] at hs
    repeat' (first | with_reducible refine And.intro ?_ ?_ | ((with_reducible intro hc); (try simp only [zA, zB, zC, zD, zE, zF, zG, zH, zI, zJ, zK, zL, zM, zN, zO, zP, zQ, zR, zS, zT, zU, zV, zW] at hc); (first | (exact absurd rfl hc) | (exact absurd trivial hc) | (exfalso; omega) | skip)) | exact Is.mk rfl rfl | ((conv => whnf); first | with_reducible refine And.intro ?_ ?_ | with_reducible intro hx | exact Is.mk rfl rfl | (with_reducible first | apply Val.via | apply ValH.via) | refine ifB_intro ?_ ?_ | refine xA (by omega) ?_ | ((refine xB ?_); intro kw hk1 hk2) | refine xC (by omega) ?_ | refine xD ?_ | refine xE (by omega) ?_ | refine xF (by omega) ?_ | refine xG ?_ | refine xH ?_ | refine xI (by omega) ?_ | refine xJ (by omega) ?_ | (with_reducible refine stopA ?_) | refine Exists.intro _ (And.intro (by rfl) ?_) | refine GOp.drawn (by rfl) (by rfl) (Nat.le_of_ble_eq_true (by rfl)) (by rfl) | refine GOp.via (by rfl) ?_ | refine GWP.drawY mixed _ (by kernel_rfl) (by rfl) ?_ | (refine GCall.mk ((hs).mono ?_); rintro _ _ ⟨rfl, rfl⟩) | (with_reducible first | refine stopO ?_ | refine stopE ?_ | refine stopD ?_ | refine stopW ?_ | refine stopG ?_ | refine stopC ?_ | refine stopR ?_)))
    all_goals (first | omega | skip)
    refine Done'.mk ⟨?_, rfl⟩
    have e : trimCR t = t := by
      unfold trimCR
      rw [if_neg (beq_eq_false_iff_ne.1 h13)]
    rw [e]
    rfl
theorem hasSufR_call (t : List UInt8) (H : Heap) (ht : t.length ≤ 100000) : VCall Tryd.prog 165 [roB t, .ro 1 [bV 13]] H (fun x K => x = booV (t.getLast? == some 13) ∧ K = H) := by
  refine VCall.pure (by simp [nameless_roB, show Nameless (.ro 1 [bV 13]) from nameless_roB [13]]) (nameless_sc _) ?_
  refine VCall.go Tryd.func165 rfl ?_
  repeat' (first | with_reducible refine And.intro ?_ ?_ | ((with_reducible intro hc); (try simp only [zA, zB, zC, zD, zE, zF, zG, zH, zI, zJ, zK, zL, zM, zN, zO, zP, zQ, zR, zS, zT, zU, zV, zW] at hc); (first | (exact absurd rfl hc) | (exact absurd trivial hc) | (exfalso; omega) | skip)) | ((conv => whnf); first | with_reducible refine And.intro ?_ ?_ | refine ifB_intro ?_ ?_ | refine xA (by omega) ?_ | ((refine xB ?_); intro kw hk1 hk2) | refine xC (by omega) ?_ | refine xD ?_ | refine xE (by omega) ?_ | refine xF (by omega) ?_ | refine xG ?_ | refine xH ?_ | refine xI (by omega) ?_ | refine xJ (by omega) ?_ | (with_reducible refine stopA ?_) | refine Exists.intro _ (And.intro (by rfl) ?_) | refine GOp.via (by rfl) ?_ | (with_reducible first | refine stopO ?_ | refine stopE ?_ | refine stopD ?_ | refine stopW ?_ | refine stopG ?_ | refine stopC ?_ | refine stopR ?_)))
  all_goals (first | omega | skip)
  · refine GCall'.mk (VCall.arg21 (cut1 t (by omega)) ((equal_call (t.drop (t.length - 1)) [13] _).mono ?_))
    rintro _ _ ⟨rfl, rfl⟩
    rw [suf13 t (by omega)]
    repeat' (first | with_reducible refine And.intro ?_ ?_ | ((with_reducible intro hc); (try simp only [zA, zB, zC, zD, zE, zF, zG, zH, zI, zJ, zK, zL, zM, zN, zO, zP, zQ, zR, zS, zT, zU, zV, zW] at hc); (first | (exact absurd rfl hc) | (exact absurd trivial hc) | (exfalso; omega) | skip)) | ((conv => whnf); first | with_reducible refine And.intro ?_ ?_ | refine ifB_intro ?_ ?_ | refine xA (by omega) ?_ | ((refine xB ?_); intro kw hk1 hk2) | refine xC (by omega) ?_ | refine xD ?_ | refine xE (by omega) ?_ | refine xF (by omega) ?_ | refine xG ?_ | refine xH ?_ | refine xI (by omega) ?_ | refine xJ (by omega) ?_ | (with_reducible refine stopA ?_) | refine Exists.intro _ (And.intro (by rfl) ?_) | refine GOp.via (by rfl) ?_ | (with_reducible first | refine stopO ?_ | refine stopE ?_ | refine stopD ?_ | refine stopW ?_ | refine stopG ?_ | refine stopC ?_ | refine stopR ?_)))
    exact Done'.mk rfl
  · have : t = [] := List.eq_nil_of_length_eq_zero (by omega)
    subst this
    exact Done'.mk rfl
theorem trimSufR_call (t : List UInt8) (H : Heap) (ht : t.length ≤ 100000) : VCall Tryd.prog 134 [roB t, .ro 1 [bV 13]] H (fun x K => x = roB (trimCR t) ∧ K = H) := by
  have hs := hasSufR_call t H ht
  refine VCall.go Tryd.func134 rfl ?_
  cases h13 : t.getLast? == some 13 with
  | true =>
    rw [h13] at hs
    have hl : 1 ≤ t.length := by
      cases t with
      | nil => simp at h13
      | cons a r => simp
    repeat' (first | with_reducible refine And.intro ?_ ?_ | ((with_reducible intro hc); (try simp only [zA, zB, zC, zD, zE, zF, zG, zH, zI, zJ, zK, zL, zM, zN, zO, zP, zQ, zR, zS, zT, zU, zV, zW] at hc); (first | (exact absurd rfl hc) | (exact absurd trivial hc) | (exfalso; omega) | skip)) | exact Is.mk rfl rfl | ((conv => whnf); first | with_reducible refine And.intro ?_ ?_ | with_reducible intro hx | exact Is.mk rfl rfl | (with_reducible first | apply Val.via | apply ValH.via) | refine ifB_intro ?_ ?_ | refine xA (by omega) ?_ | ((refine xB ?_); intro kw hk1 hk2) | refine xC (by omega) ?_ | refine xD ?_ | refine xE (by omega) ?_ | refine xF (by omega) ?_ | refine xG ?_ | refine xH ?_ | refine xI (by omega) ?_ | refine xJ (by omega) ?_ | (with_reducible refine stopA ?_) | refine Exists.intro _ (And.intro (by rfl) ?_) | refine GOp.drawn (by rfl) (by rfl) (Nat.le_of_ble_eq_true (by rfl)) (by rfl) | refine GOp.via (by rfl) ?_ | refine GWP.drawY mixed _ (by kernel_rfl) (by rfl) ?_ | (refine GCall.mk ((hs).mono ?_); rintro _ _ ⟨rfl, rfl⟩) | (with_reducible first | refine stopO ?_ | refine stopE ?_ | refine stopD ?_ | refine stopW ?_ | refine stopG ?_ | refine stopC ?_ | refine stopR ?_)))
    all_goals (first | omega | skip)
    refine Done'.mk ⟨?_, rfl⟩
    have e : trimCR t = t.take (t.length - 1) := by
      unfold trimCR
      rw [if_pos (beq_iff_eq.1 h13), List.dropLast_eq_take]
    rw [e]
    have := roB_slice (l := t) (z := 1) (i := 0) (j := ((t.length : Int) - 1).toNat) rfl (by omega) (by omega)
    refine this.trans (congrArg roB ?_)
    rw [show ((t.length : Int) - 1).toNat = t.length - 1 by omega]
    rfl
  | false =>
    rw [h13] at hs
    repeat' (first | with_reducible refine And.intro ?_ ?_ | ((with_reducible intro hc); (try simp only [zA, zB, zC, zD, zE, zF, zG, zH, zI, zJ, zK, zL, zM, zN, zO, zP, zQ, zR, zS, zT, zU, zV, zW] at hc); (first | (exact absurd rfl hc) | (exact absurd trivial hc) | (exfalso; omega) | skip)) | exact Is.mk rfl rfl | ((conv => whnf); first | with_reducible refine And.intro ?_ ?_ | with_reducible intro hx | exact Is.mk rfl rfl | (with_reducible first | apply Val.via | apply ValH.via) | refine ifB_intro ?_ ?_ | refine xA (by omega) ?_ | ((refine xB ?_); intro kw hk1 hk2) | refine xC (by omega) ?_ | refine xD ?_ | refine xE (by omega) ?_ | refine xF (by omega) ?_ | refine xG ?_ | refine xH ?_ | refine xI (by omega) ?_ | refine xJ (by omega) ?_ | (with_reducible refine stopA ?_) | refine Exists.intro _ (And.intro (by rfl) ?_) | refine GOp.drawn (by rfl) (by rfl) (Nat.le_of_ble_eq_true (by rfl)) (by rfl) | refine GOp.via (by rfl) ?_ | refine GWP.drawY mixed _ (by kernel_rfl) (by rfl) ?_ | (refine GCall.mk ((hs).mono ?_); rintro _ _ ⟨rfl, rfl⟩) | (with_reducible first | refine stopO ?_ | refine stopE ?_ | refine stopD ?_ | refine stopW ?_ | refine stopG ?_ | refine stopC ?_ | refine stopR ?_)))
    all_goals (first | omega | skip)
    refine Done'.mk ⟨?_, rfl⟩
    have e : trimCR t = t := by
      unfold trimCR
      rw [if_neg (beq_eq_false_iff_ne.1 h13)]
    rw [e]
    rfl
theorem foldl_count (c : UInt8) : ∀ (l : List UInt8) (n : Int), l.foldl (fun n x => if x == c then n + 1 else n) n = n + l.count c
  | [], n => by simp
  | a :: l, n => by
    rw [List.foldl_cons, foldl_count c l, List.count_cons]
    cases a == c <;> simp <;> omega
theorem ext_count (l : List UInt8) (b : UInt8) (H : Heap) : vextern Tryd.prog 167 [roB l, bV b] H = some (iV (l.count b)) := by
  have hf := Tryd.func167
  have hr : extRow Tryd.f167.name = some Extern.BytealgCount.count := by kernel_rfl
  have hb : Tryd.f167.body = none := rfl
  have ho : Tryd.f167.origin = "" := rfl
  have hp : pureRun Tryd.prog (Extern.BytealgCount.count #[.string ⟨l.toArray⟩, .int .u8 (b.toNat : Int)]) = some (.int .i64 (l.count b)) := by
    rw [ct_eq]
    have e1 : Extern.Bytes.bytesOf (.string ⟨l.toArray⟩) = pure ⟨l.toArray⟩ := rfl
    have e2 : Extern.Bytes.asByte (.int .u8 (b.toNat : Int)) = pure b := by
      show (pure ((b.toNat : Int).toNat.toUInt8) : Sem UInt8) = pure b
      congr 1
      simp
    rw [e1, e2]
    show pureRun Tryd.prog (pure (goInt ((⟨l.toArray⟩ : ByteArray).foldl (fun n x => if x == b then n + 1 else n) ((0 : Nat) : Int)))) = _
    rw [Lib.foldl_data]
    show pureRun Tryd.prog (pure (goInt (l.foldl (fun n x => if x == b then n + 1 else n) ((0 : Nat) : Int)))) = _
    rw [foldl_count]
    show some (Value.int .i64 (((0 : Nat) : Int) + (l.count b : Int))) = _
    rw [show ((0 : Nat) : Int) + (l.count b : Int) = (l.count b : Int) by omega]
  simp only [vextern, hf, hb, ho, if_true, hr, bV, argB_roB]
  rw [hp]
  rfl
theorem count_call (l : List UInt8) {b : Nat} {c : UInt8} {c0 : Option Nat} {H : Heap} (hg : H.get b = some (.cells true [bV c])) : VCall Tryd.prog 136 [roB l, .sl b 0 1 c0 1] H (fun x K => x = iV (l.count c) ∧ K = H) := by
  refine VCall.viewed (args' := [roB l, .ro 1 [bV c]]) (Q := fun v K => v = iV (l.count c)) (.cons (View.of (nameless_roB l)) (.cons ?_ .nil)) ?_ (fun v K e => by subst e; exact Frx.of (exact_sc _))
  · exact View.sl (H := H) (b := b) (o := 0) (n := 1) (z := 1) (c := c0) hg (by simp) (nameless_map nameless_bV [c])
  · refine VCall.go Tryd.func136 rfl ?_
    repeat' (first | with_reducible refine And.intro ?_ ?_ | ((with_reducible intro hc); (try simp only [zA, zB, zC, zD, zE, zF, zG, zH, zI, zJ, zK, zL, zM, zN, zO, zP, zQ, zR, zS, zT, zU, zV, zW] at hc); (first | (exact absurd rfl hc) | (exact absurd trivial hc) | (exfalso; omega) | skip)) | ((conv => whnf); first | with_reducible refine And.intro ?_ ?_ | refine ifB_intro ?_ ?_ | refine xA (by omega) ?_ | ((refine xB ?_); intro kw hk1 hk2) | refine xC (by omega) ?_ | refine xD ?_ | refine xE (by omega) ?_ | refine xF (by omega) ?_ | refine xG ?_ | refine xH ?_ | refine xI (by omega) ?_ | refine xJ (by omega) ?_ | (with_reducible refine stopA ?_) | refine Exists.intro _ (And.intro (by rfl) ?_) | refine GOp.via (by rfl) ?_ | (with_reducible first | refine stopO ?_ | refine stopE ?_ | refine stopD ?_ | refine stopW ?_ | refine stopG ?_ | refine stopC ?_ | refine stopR ?_)))
    all_goals (first | omega | skip)
    refine GExt'.via (ext_count l c _) ?_
    repeat' (first | with_reducible refine And.intro ?_ ?_ | ((with_reducible intro hc); (try simp only [zA, zB, zC, zD, zE, zF, zG, zH, zI, zJ, zK, zL, zM, zN, zO, zP, zQ, zR, zS, zT, zU, zV, zW] at hc); (first | (exact absurd rfl hc) | (exact absurd trivial hc) | (exfalso; omega) | skip)) | ((conv => whnf); first | with_reducible refine And.intro ?_ ?_ | refine ifB_intro ?_ ?_ | refine xA (by omega) ?_ | ((refine xB ?_); intro kw hk1 hk2) | refine xC (by omega) ?_ | refine xD ?_ | refine xE (by omega) ?_ | refine xF (by omega) ?_ | refine xG ?_ | refine xH ?_ | refine xI (by omega) ?_ | refine xJ (by omega) ?_ | (with_reducible refine stopA ?_) | refine Exists.intro _ (And.intro (by rfl) ?_) | refine GOp.via (by rfl) ?_ | (with_reducible first | refine stopO ?_ | refine stopE ?_ | refine stopD ?_ | refine stopW ?_ | refine stopG ?_ | refine stopC ?_ | refine stopR ?_)))
    exact Done'.mk rfl
end Go.Proofs.YtmmjgbdihgdekaaDoor
