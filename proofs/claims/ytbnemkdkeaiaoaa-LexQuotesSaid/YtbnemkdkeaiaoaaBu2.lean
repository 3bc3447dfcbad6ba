/- strings.Builder: WriteString, WriteByte, String, walked at names of their own. -/
import Derived.Test.YtbnemkdkeaiaoaaBu1
namespace Go.Proofs.Ytbnemkdkeaiaoaa
open Go Go.RowKit
set_option linter.unusedSimpArgs false
set_option linter.unusedVariables false
set_option maxRecDepth 100000
set_option maxHeartbeats 4000000
theorem u8_info : ∃ i zv, (Try.prog).info? 5 = some i ∧ i.size = 1 ∧ i.bytes = 1 ∧ i.zero = some zv ∧ zv.cells.size = 1 := ⟨_, _, rfl, rfl, rfl, rfl, rfl⟩
def sbO (u : Bool) (b m : Nat) (l : List UInt8) : List (Nat × VObj) := [(b, sbV u b m l), (m, bufX 5 l)]
/-- Behind a write. -/
theorem VCall.sb {P : Program} {f : FuncId} {args : List VV} {O : List (Nat × VObj)} {l : List UInt8} {u : VV} (hu : Nameless u) (h : VCall P f args ⟨O, 2⟩ (fun v K => v = u ∧ ∃ m, K.get 0 = some (.cells true [.ptr 0 0, bufV m l]) ∧ (l ≠ [] → K.get m = some (.raw 5 (l.map byteV) none)) ∧ (m = 0 → l = []))) :
    VCall P f args ⟨O, 2⟩ (fun v K => v = u ∧ K = ⟨sbO true 0 2 l, 3⟩) := by
  refine VCall.outR h ?_
  rintro v K ⟨rfl, m, g0, g1, g2⟩
  cases l with
  | nil => exact ⟨v, sbO true 0 2 [], 3, [], rfl, .of hu, ⟨⟨_, g0, .cells (.cons (.ptrL (by show 0 < 2; decide)) (.cons (.of (nameless_sc _)) .nil))⟩, rfl, trivial⟩, rfl, rfl⟩
  | cons c r =>
    refine ⟨v, sbO true 0 2 (c :: r), 3, [(m, 2)], ?_, .of hu, ?_, rfl, rfl⟩
    · have hm : m ≠ 0 := fun e => by cases g2 e
      have hb : Nat.beq 0 m = false := by
        cases h : Nat.beq 0 m
        · rfl
        · exact absurd (Nat.eq_of_beq_eq_true h).symm hm
      show (wfR 2 3 [(m, 2)] && nodupB [0, m] && Nat.ble 2 3 && _) = true
      simp only [nodupB, List.all_cons, List.all_nil, hb]
      rfl
    · exact ⟨⟨_, g0, .cells (.cons (.ptrL (by show 0 < 2; decide)) (.cons (.sl (List.Mem.head _)) .nil))⟩, ⟨_, g1 (by simp), .raw⟩, trivial⟩
theorem bufV_app (m : Nat) (l : List UInt8) (c : UInt8) (x : List UInt8) : bufV m (l ++ c :: x) = .sl m 0 (l.length + (c :: x).length) none 1 := by
  cases l with
  | nil =>
    show VV.sl m 0 (x.length + 1) none 1 = _
    rw [List.length_cons, List.length_nil, Nat.zero_add]
  | cons c0 r0 =>
    show VV.sl m 0 ((r0 ++ c :: x).length + 1) none 1 = _
    rw [List.length_append, List.length_cons, List.length_cons]
    congr 1
    omega
theorem wstr_call (u : Bool) (l s : List UInt8) (hul : u = false → l = []) (hm : l.length + s.length ≤ 500000000) : VCall Try.prog 95 [.ptr 0 0, strV s] ⟨sbO u 0 1 l, 2⟩ (fun v K => v = .tp [iV s.length, .sc .nilIface] ∧ K = ⟨sbO true 0 2 (l ++ s), 3⟩) := by
  refine VCall.sb (nameless_tp (by simp [nameless_sc, iV])) ?_
  obtain ⟨i, zv, hi, hs1, hb1, hzv, hzc⟩ := u8_info
  have hsz : (⟨s.toArray⟩ : ByteArray).size = s.length := by simp [ByteArray.size]
  cases u with
  | false =>
    obtain rfl := hul rfl
    cases s with
    | nil =>
      change VCall Try.prog _ _ ⟨[(0, .raw 71 [.pointer none, .slice none 0 0] (some 2)), (1, .opt [])], 2⟩ _
      refine VCall.go Try.func95 rfl ?_
      repeat' (first | with_reducible refine And.intro ?_ ?_ | ((with_reducible intro hc); (try simp only [zA, zB, zC, zD, zE, zF, zG, zH, zI, zJ, zK, zL, zM, zN, zO, zP, zQ, zR, zS, zT, zU, zV, zW] at hc); (first | (exact absurd rfl hc) | (exact absurd trivial hc) | (exfalso; omega) | skip)) | exact Is.mk rfl rfl | ((conv => whnf); first | with_reducible refine And.intro ?_ ?_ | with_reducible intro hx | exact Is.mk rfl rfl | (with_reducible first | apply Val.via | apply ValH.via) | refine ifB_intro ?_ ?_ | refine xA (by omega) ?_ | ((refine xB ?_); intro kw hk1 hk2) | refine xC (by omega) ?_ | refine xD ?_ | refine xE (by omega) ?_ | refine xF (by omega) ?_ | refine xG ?_ | refine xH ?_ | refine xI (by omega) ?_ | refine xJ (by omega) ?_ | (with_reducible refine stopA ?_) | refine Exists.intro _ (And.intro (by (first | exact vat_of rfl rfl rfl | rfl)) ?_) | refine GOp.drawn (by rfl) (by rfl) (Nat.le_of_ble_eq_true (by rfl)) (by rfl) | refine GOp.via (by rfl) ?_ | refine GWP.drawY mixed _ (by kernel_rfl) (by rfl) ?_ | (refine GCall.mk ((copyF_call _ _).mono ?_); rintro _ _ ⟨rfl, rfl⟩) | (with_reducible first | refine stopO ?_ | refine stopE ?_ | refine stopD ?_ | refine stopW ?_ | refine stopG ?_ | refine stopC ?_ | refine stopR ?_)))
      (all_goals (first | omega | contradiction | skip))
      exact Done'.mk ⟨rfl, 2, rfl, by simp, by simp⟩
    | cons c r =>
      change VCall Try.prog _ _ ⟨[(0, .raw 71 [.pointer none, .slice none 0 0] (some 2)), (1, .opt [])], 2⟩ _
      refine VCall.go Try.func95 rfl ?_
      repeat' (first | with_reducible refine And.intro ?_ ?_ | ((with_reducible intro hc); (try simp only [zA, zB, zC, zD, zE, zF, zG, zH, zI, zJ, zK, zL, zM, zN, zO, zP, zQ, zR, zS, zT, zU, zV, zW] at hc); (first | (exact absurd rfl hc) | (exact absurd trivial hc) | (exfalso; omega) | skip)) | exact Is.mk rfl rfl | ((conv => whnf); first | with_reducible refine And.intro ?_ ?_ | with_reducible intro hx | exact Is.mk rfl rfl | (with_reducible first | apply Val.via | apply ValH.via) | refine ifB_intro ?_ ?_ | refine xA (by omega) ?_ | ((refine xB ?_); intro kw hk1 hk2) | refine xC (by omega) ?_ | refine xD ?_ | refine xE (by omega) ?_ | refine xF (by omega) ?_ | refine xG ?_ | refine xH ?_ | refine xI (by omega) ?_ | refine xJ (by omega) ?_ | (with_reducible refine stopA ?_) | refine Exists.intro _ (And.intro (by (first | exact vat_of rfl rfl rfl | rfl)) ?_) | (refine stopO (GOp'.growR (b := 1) (l := []) (l2 := (c :: r)) (e := 5) (d := .string) rfl Try.underlying28 hi hs1 hb1 hzv hzc Try.underlying9 (by intro k h; cases h) rfl (by intro h; first | rfl | exact absurd rfl h) rfl (by simp) (by simp only [List.length_cons, List.length_nil] at hm ⊢; omega) ?_)) | refine GOp.drawn (by rfl) (by rfl) (Nat.le_of_ble_eq_true (by rfl)) (by rfl) | refine GOp.via (by rfl) ?_ | refine GWP.drawY mixed _ (by kernel_rfl) (by rfl) ?_ | (refine GCall.mk ((copyF_call _ _).mono ?_); rintro _ _ ⟨rfl, rfl⟩) | (with_reducible first | refine stopO ?_ | refine stopE ?_ | refine stopD ?_ | refine stopW ?_ | refine stopG ?_ | refine stopC ?_ | refine stopR ?_)))
      (all_goals (first | omega | contradiction | skip))
      exact Done'.mk ⟨by rw [← hsz]; rfl, 2, Eq.trans (b := some (VObj.cells true [.ptr 0 0, .sl 2 0 (([] : List UInt8).length + (c :: r).length) none 1])) rfl (by rw [bufV_app]), fun _ => rfl, by simp⟩
  | true =>
    cases l with
    | nil =>
      cases s with
      | nil =>
        change VCall Try.prog _ _ ⟨[(0, .cells true [.ptr 0 0, .sc (.slice none 0 0)]), (1, .opt [])], 2⟩ _
        refine VCall.go Try.func95 rfl ?_
        repeat' (first | with_reducible refine And.intro ?_ ?_ | ((with_reducible intro hc); (try simp only [zA, zB, zC, zD, zE, zF, zG, zH, zI, zJ, zK, zL, zM, zN, zO, zP, zQ, zR, zS, zT, zU, zV, zW] at hc); (first | (exact absurd rfl hc) | (exact absurd trivial hc) | (exfalso; omega) | skip)) | exact Is.mk rfl rfl | ((conv => whnf); first | with_reducible refine And.intro ?_ ?_ | with_reducible intro hx | exact Is.mk rfl rfl | (with_reducible first | apply Val.via | apply ValH.via) | refine ifB_intro ?_ ?_ | refine xA (by omega) ?_ | ((refine xB ?_); intro kw hk1 hk2) | refine xC (by omega) ?_ | refine xD ?_ | refine xE (by omega) ?_ | refine xF (by omega) ?_ | refine xG ?_ | refine xH ?_ | refine xI (by omega) ?_ | refine xJ (by omega) ?_ | (with_reducible refine stopA ?_) | refine Exists.intro _ (And.intro (by (first | exact vat_of rfl rfl rfl | rfl)) ?_) | refine GOp.drawn (by rfl) (by rfl) (Nat.le_of_ble_eq_true (by rfl)) (by rfl) | refine GOp.via (by rfl) ?_ | refine GWP.drawY mixed _ (by kernel_rfl) (by rfl) ?_ | (refine GCall.mk ((copyU_call _ _ _).mono ?_); rintro _ _ ⟨rfl, rfl⟩) | (with_reducible first | refine stopO ?_ | refine stopE ?_ | refine stopD ?_ | refine stopW ?_ | refine stopG ?_ | refine stopC ?_ | refine stopR ?_)))
        (all_goals (first | omega | contradiction | skip))
        exact Done'.mk ⟨rfl, 2, rfl, by simp, by simp⟩
      | cons c r =>
        change VCall Try.prog _ _ ⟨[(0, .cells true [.ptr 0 0, .sc (.slice none 0 0)]), (1, .opt [])], 2⟩ _
        refine VCall.go Try.func95 rfl ?_
        repeat' (first | with_reducible refine And.intro ?_ ?_ | ((with_reducible intro hc); (try simp only [zA, zB, zC, zD, zE, zF, zG, zH, zI, zJ, zK, zL, zM, zN, zO, zP, zQ, zR, zS, zT, zU, zV, zW] at hc); (first | (exact absurd rfl hc) | (exact absurd trivial hc) | (exfalso; omega) | skip)) | exact Is.mk rfl rfl | ((conv => whnf); first | with_reducible refine And.intro ?_ ?_ | with_reducible intro hx | exact Is.mk rfl rfl | (with_reducible first | apply Val.via | apply ValH.via) | refine ifB_intro ?_ ?_ | refine xA (by omega) ?_ | ((refine xB ?_); intro kw hk1 hk2) | refine xC (by omega) ?_ | refine xD ?_ | refine xE (by omega) ?_ | refine xF (by omega) ?_ | refine xG ?_ | refine xH ?_ | refine xI (by omega) ?_ | refine xJ (by omega) ?_ | (with_reducible refine stopA ?_) | refine Exists.intro _ (And.intro (by (first | exact vat_of rfl rfl rfl | rfl)) ?_) | (refine stopO (GOp'.growR (b := 1) (l := []) (l2 := (c :: r)) (e := 5) (d := .string) rfl Try.underlying28 hi hs1 hb1 hzv hzc Try.underlying9 (by intro k h; cases h) rfl (by intro h; first | rfl | exact absurd rfl h) rfl (by simp) (by simp only [List.length_cons, List.length_nil] at hm ⊢; omega) ?_)) | refine GOp.drawn (by rfl) (by rfl) (Nat.le_of_ble_eq_true (by rfl)) (by rfl) | refine GOp.via (by rfl) ?_ | refine GWP.drawY mixed _ (by kernel_rfl) (by rfl) ?_ | (refine GCall.mk ((copyU_call _ _ _).mono ?_); rintro _ _ ⟨rfl, rfl⟩) | (with_reducible first | refine stopO ?_ | refine stopE ?_ | refine stopD ?_ | refine stopW ?_ | refine stopG ?_ | refine stopC ?_ | refine stopR ?_)))
        (all_goals (first | omega | contradiction | skip))
        exact Done'.mk ⟨by rw [← hsz]; rfl, 2, Eq.trans (b := some (VObj.cells true [.ptr 0 0, .sl 2 0 (([] : List UInt8).length + (c :: r).length) none 1])) rfl (by rw [bufV_app]), fun _ => rfl, by simp⟩
    | cons c0 r0 =>
      cases s with
      | nil =>
        change VCall Try.prog _ _ ⟨[(0, .cells true [.ptr 0 0, .sl 1 0 (r0.length + 1) none 1]), (1, .raw 5 ((c0 :: r0).map byteV) none)], 2⟩ _
        refine VCall.go Try.func95 rfl ?_
        repeat' (first | with_reducible refine And.intro ?_ ?_ | ((with_reducible intro hc); (try simp only [zA, zB, zC, zD, zE, zF, zG, zH, zI, zJ, zK, zL, zM, zN, zO, zP, zQ, zR, zS, zT, zU, zV, zW] at hc); (first | (exact absurd rfl hc) | (exact absurd trivial hc) | (exfalso; omega) | skip)) | exact Is.mk rfl rfl | ((conv => whnf); first | with_reducible refine And.intro ?_ ?_ | with_reducible intro hx | exact Is.mk rfl rfl | (with_reducible first | apply Val.via | apply ValH.via) | refine ifB_intro ?_ ?_ | refine xA (by omega) ?_ | ((refine xB ?_); intro kw hk1 hk2) | refine xC (by omega) ?_ | refine xD ?_ | refine xE (by omega) ?_ | refine xF (by omega) ?_ | refine xG ?_ | refine xH ?_ | refine xI (by omega) ?_ | refine xJ (by omega) ?_ | (with_reducible refine stopA ?_) | refine Exists.intro _ (And.intro (by (first | exact vat_of rfl rfl rfl | rfl)) ?_) | refine GOp.drawn (by rfl) (by rfl) (Nat.le_of_ble_eq_true (by rfl)) (by rfl) | refine GOp.via (by rfl) ?_ | refine GWP.drawY mixed _ (by kernel_rfl) (by rfl) ?_ | (refine GCall.mk ((copyU_call _ _ _).mono ?_); rintro _ _ ⟨rfl, rfl⟩) | (with_reducible first | refine stopO ?_ | refine stopE ?_ | refine stopD ?_ | refine stopW ?_ | refine stopG ?_ | refine stopC ?_ | refine stopR ?_)))
        (all_goals (first | omega | contradiction | skip))
        exact Done'.mk ⟨rfl, 1, by rw [List.append_nil]; rfl, fun _ => by rw [List.append_nil]; rfl, by simp⟩
      | cons c r =>
        change VCall Try.prog _ _ ⟨[(0, .cells true [.ptr 0 0, .sl 1 0 (r0.length + 1) none 1]), (1, .raw 5 ((c0 :: r0).map byteV) none)], 2⟩ _
        refine VCall.go Try.func95 rfl ?_
        repeat' (first | with_reducible refine And.intro ?_ ?_ | ((with_reducible intro hc); (try simp only [zA, zB, zC, zD, zE, zF, zG, zH, zI, zJ, zK, zL, zM, zN, zO, zP, zQ, zR, zS, zT, zU, zV, zW] at hc); (first | (exact absurd rfl hc) | (exact absurd trivial hc) | (exfalso; omega) | skip)) | exact Is.mk rfl rfl | ((conv => whnf); first | with_reducible refine And.intro ?_ ?_ | with_reducible intro hx | exact Is.mk rfl rfl | (with_reducible first | apply Val.via | apply ValH.via) | refine ifB_intro ?_ ?_ | refine xA (by omega) ?_ | ((refine xB ?_); intro kw hk1 hk2) | refine xC (by omega) ?_ | refine xD ?_ | refine xE (by omega) ?_ | refine xF (by omega) ?_ | refine xG ?_ | refine xH ?_ | refine xI (by omega) ?_ | refine xJ (by omega) ?_ | (with_reducible refine stopA ?_) | refine Exists.intro _ (And.intro (by (first | exact vat_of rfl rfl rfl | rfl)) ?_) | (refine stopO (GOp'.growR (b := 1) (l := (c0 :: r0)) (l2 := (c :: r)) (e := 5) (d := .string) rfl Try.underlying28 hi hs1 hb1 hzv hzc Try.underlying9 (by intro k h; cases h) rfl (by intro h; first | rfl | exact absurd rfl h) rfl (by simp) (by simp only [List.length_cons, List.length_nil] at hm ⊢; omega) ?_)) | refine GOp.drawn (by rfl) (by rfl) (Nat.le_of_ble_eq_true (by rfl)) (by rfl) | refine GOp.via (by rfl) ?_ | refine GWP.drawY mixed _ (by kernel_rfl) (by rfl) ?_ | (refine GCall.mk ((copyU_call _ _ _).mono ?_); rintro _ _ ⟨rfl, rfl⟩) | (with_reducible first | refine stopO ?_ | refine stopE ?_ | refine stopD ?_ | refine stopW ?_ | refine stopG ?_ | refine stopC ?_ | refine stopR ?_)))
        (all_goals (first | omega | contradiction | skip))
        exact Done'.mk ⟨by rw [← hsz]; rfl, 2, Eq.trans (b := some (VObj.cells true [.ptr 0 0, .sl 2 0 ((c0 :: r0).length + (c :: r).length) none 1])) rfl (by rw [bufV_app]), fun _ => rfl, by simp⟩
theorem wbyte_call (u : Bool) (l : List UInt8) (c : UInt8) (hul : u = false → l = []) (hm : l.length + [c].length ≤ 500000000) : VCall Try.prog 38 [.ptr 0 0, bV c] ⟨sbO u 0 1 l, 2⟩ (fun v K => v = .sc .nilIface ∧ K = ⟨sbO true 0 2 (l ++ [c]), 3⟩) := by
  refine VCall.sb (nameless_sc _) ?_
  obtain ⟨i, zv, hi, hs1, hb1, hzv, hzc⟩ := u8_info
  cases u with
  | false =>
    obtain rfl := hul rfl
    change VCall Try.prog _ _ ⟨[(0, .raw 71 [.pointer none, .slice none 0 0] (some 2)), (1, .opt [])], 2⟩ _
    refine VCall.go Try.func38 rfl ?_
    repeat' (first | with_reducible refine And.intro ?_ ?_ | ((with_reducible intro hc); (try simp only [zA, zB, zC, zD, zE, zF, zG, zH, zI, zJ, zK, zL, zM, zN, zO, zP, zQ, zR, zS, zT, zU, zV, zW] at hc); (first | (exact absurd rfl hc) | (exact absurd trivial hc) | (exfalso; omega) | skip)) | exact Is.mk rfl rfl | ((conv => whnf); first | with_reducible refine And.intro ?_ ?_ | with_reducible intro hx | exact Is.mk rfl rfl | (with_reducible first | apply Val.via | apply ValH.via) | refine ifB_intro ?_ ?_ | refine xA (by omega) ?_ | ((refine xB ?_); intro kw hk1 hk2) | refine xC (by omega) ?_ | refine xD ?_ | refine xE (by omega) ?_ | refine xF (by omega) ?_ | refine xG ?_ | refine xH ?_ | refine xI (by omega) ?_ | refine xJ (by omega) ?_ | (with_reducible refine stopA ?_) | refine Exists.intro _ (And.intro (by (first | exact vat_of rfl rfl rfl | rfl)) ?_) | (refine stopO (GOp'.growR (b := 1) (l := []) (l2 := [c]) (e := 5) (d := .slice 5) rfl Try.underlying28 hi hs1 hb1 hzv hzc Try.underlying28 (by intro k h; cases h) rfl (by intro h; first | rfl | exact absurd rfl h) rfl (by simp) (by simp only [List.length_cons, List.length_nil] at hm ⊢; omega) ?_)) | refine GOp.drawn (by rfl) (by rfl) (Nat.le_of_ble_eq_true (by rfl)) (by rfl) | refine GOp.via (by rfl) ?_ | refine GWP.drawY mixed _ (by kernel_rfl) (by rfl) ?_ | (refine GCall.mk ((copyF_call _ _).mono ?_); rintro _ _ ⟨rfl, rfl⟩) | (with_reducible first | refine stopO ?_ | refine stopE ?_ | refine stopD ?_ | refine stopW ?_ | refine stopG ?_ | refine stopC ?_ | refine stopR ?_)))
    (all_goals (first | omega | contradiction | skip))
    exact Done'.mk ⟨rfl, 3, Eq.trans (b := some (VObj.cells true [.ptr 0 0, .sl 3 0 (([] : List UInt8).length + [c].length) none 1])) rfl (by rw [bufV_app]), fun _ => rfl, by simp⟩
  | true =>
    cases l with
    | nil =>
      change VCall Try.prog _ _ ⟨[(0, .cells true [.ptr 0 0, .sc (.slice none 0 0)]), (1, .opt [])], 2⟩ _
      refine VCall.go Try.func38 rfl ?_
      repeat' (first | with_reducible refine And.intro ?_ ?_ | ((with_reducible intro hc); (try simp only [zA, zB, zC, zD, zE, zF, zG, zH, zI, zJ, zK, zL, zM, zN, zO, zP, zQ, zR, zS, zT, zU, zV, zW] at hc); (first | (exact absurd rfl hc) | (exact absurd trivial hc) | (exfalso; omega) | skip)) | exact Is.mk rfl rfl | ((conv => whnf); first | with_reducible refine And.intro ?_ ?_ | with_reducible intro hx | exact Is.mk rfl rfl | (with_reducible first | apply Val.via | apply ValH.via) | refine ifB_intro ?_ ?_ | refine xA (by omega) ?_ | ((refine xB ?_); intro kw hk1 hk2) | refine xC (by omega) ?_ | refine xD ?_ | refine xE (by omega) ?_ | refine xF (by omega) ?_ | refine xG ?_ | refine xH ?_ | refine xI (by omega) ?_ | refine xJ (by omega) ?_ | (with_reducible refine stopA ?_) | refine Exists.intro _ (And.intro (by (first | exact vat_of rfl rfl rfl | rfl)) ?_) | (refine stopO (GOp'.growR (b := 1) (l := []) (l2 := [c]) (e := 5) (d := .slice 5) rfl Try.underlying28 hi hs1 hb1 hzv hzc Try.underlying28 (by intro k h; cases h) rfl (by intro h; first | rfl | exact absurd rfl h) rfl (by simp) (by simp only [List.length_cons, List.length_nil] at hm ⊢; omega) ?_)) | refine GOp.drawn (by rfl) (by rfl) (Nat.le_of_ble_eq_true (by rfl)) (by rfl) | refine GOp.via (by rfl) ?_ | refine GWP.drawY mixed _ (by kernel_rfl) (by rfl) ?_ | (refine GCall.mk ((copyU_call _ _ _).mono ?_); rintro _ _ ⟨rfl, rfl⟩) | (with_reducible first | refine stopO ?_ | refine stopE ?_ | refine stopD ?_ | refine stopW ?_ | refine stopG ?_ | refine stopC ?_ | refine stopR ?_)))
      (all_goals (first | omega | contradiction | skip))
      exact Done'.mk ⟨rfl, 3, Eq.trans (b := some (VObj.cells true [.ptr 0 0, .sl 3 0 (([] : List UInt8).length + [c].length) none 1])) rfl (by rw [bufV_app]), fun _ => rfl, by simp⟩
    | cons c0 r0 =>
      change VCall Try.prog _ _ ⟨[(0, .cells true [.ptr 0 0, .sl 1 0 (r0.length + 1) none 1]), (1, .raw 5 ((c0 :: r0).map byteV) none)], 2⟩ _
      refine VCall.go Try.func38 rfl ?_
      repeat' (first | with_reducible refine And.intro ?_ ?_ | ((with_reducible intro hc); (try simp only [zA, zB, zC, zD, zE, zF, zG, zH, zI, zJ, zK, zL, zM, zN, zO, zP, zQ, zR, zS, zT, zU, zV, zW] at hc); (first | (exact absurd rfl hc) | (exact absurd trivial hc) | (exfalso; omega) | skip)) | exact Is.mk rfl rfl | ((conv => whnf); first | with_reducible refine And.intro ?_ ?_ | with_reducible intro hx | exact Is.mk rfl rfl | (with_reducible first | apply Val.via | apply ValH.via) | refine ifB_intro ?_ ?_ | refine xA (by omega) ?_ | ((refine xB ?_); intro kw hk1 hk2) | refine xC (by omega) ?_ | refine xD ?_ | refine xE (by omega) ?_ | refine xF (by omega) ?_ | refine xG ?_ | refine xH ?_ | refine xI (by omega) ?_ | refine xJ (by omega) ?_ | (with_reducible refine stopA ?_) | refine Exists.intro _ (And.intro (by (first | exact vat_of rfl rfl rfl | rfl)) ?_) | (refine stopO (GOp'.growR (b := 1) (l := (c0 :: r0)) (l2 := [c]) (e := 5) (d := .slice 5) rfl Try.underlying28 hi hs1 hb1 hzv hzc Try.underlying28 (by intro k h; cases h) rfl (by intro h; first | rfl | exact absurd rfl h) rfl (by simp) (by simp only [List.length_cons, List.length_nil] at hm ⊢; omega) ?_)) | refine GOp.drawn (by rfl) (by rfl) (Nat.le_of_ble_eq_true (by rfl)) (by rfl) | refine GOp.via (by rfl) ?_ | refine GWP.drawY mixed _ (by kernel_rfl) (by rfl) ?_ | (refine GCall.mk ((copyU_call _ _ _).mono ?_); rintro _ _ ⟨rfl, rfl⟩) | (with_reducible first | refine stopO ?_ | refine stopE ?_ | refine stopD ?_ | refine stopW ?_ | refine stopG ?_ | refine stopC ?_ | refine stopR ?_)))
      (all_goals (first | omega | contradiction | skip))
      exact Done'.mk ⟨rfl, 3, Eq.trans (b := some (VObj.cells true [.ptr 0 0, .sl 3 0 ((c0 :: r0).length + [c].length) none 1])) rfl (by rw [bufV_app]), fun _ => rfl, by simp⟩
end Go.Proofs.Ytbnemkdkeaiaoaa
