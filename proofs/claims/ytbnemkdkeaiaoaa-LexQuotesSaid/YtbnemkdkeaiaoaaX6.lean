/- Signs: what is no sign; the sign ";". -/
import Derived.Test.YtbnemkdkeaiaoaaX5
namespace Go.Proofs.Ytbnemkdkeaiaoaa
open Go Go.RowKit
set_option linter.unusedSimpArgs false
set_option linter.unusedVariables false
set_option maxRecDepth 100000
set_option maxHeartbeats 4000000
def semis : Nat → List UInt8
  | 0 => []
  | n + 1 => 59 :: 32 :: semis n
theorem semis_len : ∀ n, (semis n).length = 2 * n
  | 0 => rfl
  | n + 1 => by simp [semis, semis_len n]; omega
theorem empty0_call (n : Nat) (H : Heap) (hn : n ≤ 100000) : VCall Try.prog 12 [roB (semis n)] H (fun x K => x = iV 0 ∧ K = H) := by
  refine VCall.pure (by simp [nameless_roB]) (nameless_sc _) ?_
  have hsl := semis_len n
  refine VCall.go Try.func12 rfl ?_
  repeat' (first | with_reducible refine And.intro ?_ ?_ | ((with_reducible intro hc); (try simp only [zA, zB, zC, zD, zE, zF, zG, zH, zI, zJ, zK, zL, zM, zN, zO, zP, zQ, zR, zS, zT, zU, zV, zW] at hc); (first | (exact absurd rfl hc) | (exact absurd trivial hc) | (exfalso; omega) | skip)) | ((conv => whnf); first | with_reducible refine And.intro ?_ ?_ | refine ifB_intro ?_ ?_ | refine xA (by omega) ?_ | ((refine xB ?_); intro kw hk1 hk2) | refine xC (by omega) ?_ | refine xD ?_ | refine xE (by omega) ?_ | refine xF (by omega) ?_ | refine xG ?_ | refine xH ?_ | refine xI (by omega) ?_ | refine xJ (by omega) ?_ | (with_reducible refine stopA ?_) | refine Exists.intro _ (And.intro (by rfl) ?_) | refine GOp.via (by rfl) ?_ | (with_reducible first | refine stopO ?_ | refine stopE ?_ | refine stopD ?_ | refine stopW ?_ | refine stopG ?_ | refine stopC ?_ | refine stopR ?_)))
  refine GWP'.mk (GWP.rounds1 ?_)
  cases n with
  | zero =>
    repeat' (first | with_reducible refine And.intro ?_ ?_ | ((with_reducible intro hc); (try simp only [zA, zB, zC, zD, zE, zF, zG, zH, zI, zJ, zK, zL, zM, zN, zO, zP, zQ, zR, zS, zT, zU, zV, zW] at hc); (first | (exact absurd rfl hc) | (exact absurd trivial hc) | (exfalso; omega) | skip)) | ((conv => whnf); first | with_reducible refine And.intro ?_ ?_ | refine ifB_intro ?_ ?_ | refine xA (by omega) ?_ | ((refine xB ?_); intro kw hk1 hk2) | refine xC (by omega) ?_ | refine xD ?_ | refine xE (by omega) ?_ | refine xF (by omega) ?_ | refine xG ?_ | refine xH ?_ | refine xI (by omega) ?_ | refine xJ (by omega) ?_ | (with_reducible refine stopA ?_) | refine Exists.intro _ (And.intro (by rfl) ?_) | refine GOp.via (by rfl) ?_ | (with_reducible first | refine stopO ?_ | refine stopE ?_ | refine stopD ?_ | refine stopW ?_ | refine stopG ?_ | refine stopC ?_ | refine stopR ?_)))
    exact Done'.mk rfl
  | succ n =>
    have hb : (semis (n + 1))[0]? = some 59 := rfl
    repeat' (first | with_reducible refine And.intro ?_ ?_ | ((with_reducible intro hc); (try simp only [zA, zB, zC, zD, zE, zF, zG, zH, zI, zJ, zK, zL, zM, zN, zO, zP, zQ, zR, zS, zT, zU, zV, zW] at hc); (first | (exact absurd rfl hc) | (exact absurd trivial hc) | (exfalso; omega) | skip)) | ((conv => whnf); first | with_reducible refine And.intro ?_ ?_ | refine ifB_intro ?_ ?_ | refine xA (by omega) ?_ | ((refine xB ?_); intro kw hk1 hk2) | refine xC (by omega) ?_ | refine xD ?_ | refine xE (by omega) ?_ | refine xF (by omega) ?_ | refine xG ?_ | refine xH ?_ | refine xI (by omega) ?_ | refine xJ (by omega) ?_ | (with_reducible refine stopA ?_) | refine Exists.intro _ (And.intro (by (first | exact vat_of vagg_u8 (map_at hb) (mul1 rfl rfl) | rfl)) ?_) | refine GOp.via (by rfl) ?_ | (with_reducible first | refine stopO ?_ | refine stopE ?_ | refine stopD ?_ | refine stopW ?_ | refine stopG ?_) | (refine GCall.mk ((sidx59 _).mono ?_); rintro _ _ ⟨rfl, rfl⟩) | (with_reducible refine stopC ?_) | (with_reducible refine stopR ?_)))
    all_goals (first | omega | exact Done'.mk rfl)
theorem empty1_call (n : Nat) (H : Heap) (hn : n ≤ 100000) : VCall Try.prog 12 [roB (32 :: semis n)] H (fun x K => x = iV 1 ∧ K = H) := by
  refine VCall.pure (by simp [nameless_roB]) (nameless_sc _) ?_
  have hsl := semis_len n
  have hll : (32 :: semis n : List UInt8).length = 2 * n + 1 := by simp [hsl]
  refine VCall.go Try.func12 rfl ?_
  repeat' (first | with_reducible refine And.intro ?_ ?_ | ((with_reducible intro hc); (try simp only [zA, zB, zC, zD, zE, zF, zG, zH, zI, zJ, zK, zL, zM, zN, zO, zP, zQ, zR, zS, zT, zU, zV, zW] at hc); (first | (exact absurd rfl hc) | (exact absurd trivial hc) | (exfalso; omega) | skip)) | ((conv => whnf); first | with_reducible refine And.intro ?_ ?_ | refine ifB_intro ?_ ?_ | refine xA (by omega) ?_ | ((refine xB ?_); intro kw hk1 hk2) | refine xC (by omega) ?_ | refine xD ?_ | refine xE (by omega) ?_ | refine xF (by omega) ?_ | refine xG ?_ | refine xH ?_ | refine xI (by omega) ?_ | refine xJ (by omega) ?_ | (with_reducible refine stopA ?_) | refine Exists.intro _ (And.intro (by rfl) ?_) | refine GOp.via (by rfl) ?_ | (with_reducible first | refine stopO ?_ | refine stopE ?_ | refine stopD ?_ | refine stopW ?_ | refine stopG ?_ | refine stopC ?_ | refine stopR ?_)))
  refine GWP'.mk (GWP.rounds2 ?_)
  have hb0 : (32 :: semis n : List UInt8)[0]? = some 32 := rfl
  cases n with
  | zero =>
    repeat' (first | with_reducible refine And.intro ?_ ?_ | ((with_reducible intro hc); (try simp only [zA, zB, zC, zD, zE, zF, zG, zH, zI, zJ, zK, zL, zM, zN, zO, zP, zQ, zR, zS, zT, zU, zV, zW] at hc); (first | (exact absurd rfl hc) | (exact absurd trivial hc) | (exfalso; omega) | skip)) | ((conv => whnf); first | with_reducible refine And.intro ?_ ?_ | refine ifB_intro ?_ ?_ | refine xA (by omega) ?_ | ((refine xB ?_); intro kw hk1 hk2) | refine xC (by omega) ?_ | refine xD ?_ | refine xE (by omega) ?_ | refine xF (by omega) ?_ | refine xG ?_ | refine xH ?_ | refine xI (by omega) ?_ | refine xJ (by omega) ?_ | (with_reducible refine stopA ?_) | refine Exists.intro _ (And.intro (by (first | exact vat_of vagg_u8 (map_at hb0) (mul1 rfl rfl) | rfl)) ?_) | refine GOp.via (by rfl) ?_ | (with_reducible first | refine stopO ?_ | refine stopE ?_ | refine stopD ?_ | refine stopW ?_ | refine stopG ?_) | (refine GCall.mk ((sidx32 _).mono ?_); rintro _ _ ⟨rfl, rfl⟩) | (with_reducible refine stopC ?_) | (with_reducible refine stopR ?_)))
    all_goals (first | omega | exact Done'.mk rfl)
  | succ n =>
    have hb : (32 :: semis (n + 1) : List UInt8)[1]? = some 59 := rfl
    repeat' (first | with_reducible refine And.intro ?_ ?_ | ((with_reducible intro hc); (try simp only [zA, zB, zC, zD, zE, zF, zG, zH, zI, zJ, zK, zL, zM, zN, zO, zP, zQ, zR, zS, zT, zU, zV, zW] at hc); (first | (exact absurd rfl hc) | (exact absurd trivial hc) | (exfalso; omega) | skip)) | ((conv => whnf); first | with_reducible refine And.intro ?_ ?_ | refine ifB_intro ?_ ?_ | refine xA (by omega) ?_ | ((refine xB ?_); intro kw hk1 hk2) | refine xC (by omega) ?_ | refine xD ?_ | refine xE (by omega) ?_ | refine xF (by omega) ?_ | refine xG ?_ | refine xH ?_ | refine xI (by omega) ?_ | refine xJ (by omega) ?_ | (with_reducible refine stopA ?_) | refine Exists.intro _ (And.intro (by (first | exact vat_of vagg_u8 (map_at hb0) (mul1 rfl rfl) | exact vat_of vagg_u8 (map_at hb) (mul1 rfl rfl) | rfl)) ?_) | refine GOp.via (by rfl) ?_ | (with_reducible first | refine stopO ?_ | refine stopE ?_ | refine stopD ?_ | refine stopW ?_ | refine stopG ?_) | (first | (refine GCall.mk ((sidx32 _).mono ?_); rintro _ _ ⟨rfl, rfl⟩) | (refine GCall.mk ((sidx59 _).mono ?_); rintro _ _ ⟨rfl, rfl⟩)) | (with_reducible refine stopC ?_) | (with_reducible refine stopR ?_)))
    all_goals (first | omega | exact Done'.mk rfl)
theorem hasPrefix_call (t m : List UInt8) (H : Heap) {b : Nat} {vs : List VV} {n : Nat} (hg : H.get b = some (.cells true vs)) (hv : vs = m.map bV) (hn : n = m.length) (ht : t.length ≤ 100000) : VCall Try.prog 25 [roB t, .sl b 0 n none 1] H (fun x K => x = booV (m.isPrefixOf t) ∧ K = H) := by
  subst hv hn
  refine VCall.viewed (args' := [roB t, roB m]) (Q := fun v K => v = booV (m.isPrefixOf t)) (.cons (View.of (nameless_roB t)) (.cons ?_ .nil)) ?_ (fun v K e => by subst e; exact Frx.of (exact_sc _))
  · have := View.sl (H := H) (b := b) (o := 0) (n := m.length) (z := 1) (c := none) hg (by simp) (nameless_map nameless_bV m)
    rw [List.drop_zero, Nat.mul_one, List.take_of_length_le (by simp)] at this
    unfold roB
    exact this
  · have hpre : m.length ≤ t.length → (t.take m.length == m) = m.isPrefixOf t := fun h => by
      rw [Bool.eq_iff_iff, List.isPrefixOf_iff_prefix, beq_iff_eq, List.prefix_iff_eq_take]
      exact eq_comm
    refine VCall.go Try.func25 rfl ?_
    repeat' (first | with_reducible refine And.intro ?_ ?_ | ((with_reducible intro hc); (try simp only [zA, zB, zC, zD, zE, zF, zG, zH, zI, zJ, zK, zL, zM, zN, zO, zP, zQ, zR, zS, zT, zU, zV, zW] at hc); (first | (exact absurd rfl hc) | (exact absurd trivial hc) | (exfalso; omega) | skip)) | ((conv => whnf); first | with_reducible refine And.intro ?_ ?_ | refine ifB_intro ?_ ?_ | refine xA (by omega) ?_ | ((refine xB ?_); intro kw hk1 hk2) | refine xC (by omega) ?_ | refine xD ?_ | refine xE (by omega) ?_ | refine xF (by omega) ?_ | refine xG ?_ | refine xH ?_ | refine xI (by omega) ?_ | refine xJ (by omega) ?_ | (with_reducible refine stopA ?_) | refine Exists.intro _ (And.intro (by rfl) ?_) | refine GOp.via (by rfl) ?_ | (with_reducible first | refine stopO ?_ | refine stopE ?_ | refine stopD ?_ | refine stopW ?_ | refine stopG ?_ | refine stopC ?_ | refine stopR ?_)))
    all_goals (first | omega | skip)
    · have e : VV.ro (((m.length : Int)).toNat - 0) (((t.map bV).drop (0 * 1)).take ((((m.length : Int)).toNat - 0) * 1)) = roB (t.take m.length) := by
        have := roB_slice (l := t) (z := 1) (i := 0) (j := m.length) rfl (by omega) (by omega)
        rw [Int.toNat_natCast, this, Nat.sub_zero, List.drop_zero]
      refine GCall'.mk (VCall.arg21 e ((equal_call (t.take m.length) m _).mono ?_))
      rintro _ _ ⟨rfl, rfl⟩
      rw [hpre (by omega)]
      repeat' (first | with_reducible refine And.intro ?_ ?_ | ((with_reducible intro hc); (try simp only [zA, zB, zC, zD, zE, zF, zG, zH, zI, zJ, zK, zL, zM, zN, zO, zP, zQ, zR, zS, zT, zU, zV, zW] at hc); (first | (exact absurd rfl hc) | (exact absurd trivial hc) | (exfalso; omega) | skip)) | ((conv => whnf); first | with_reducible refine And.intro ?_ ?_ | refine ifB_intro ?_ ?_ | refine xA (by omega) ?_ | ((refine xB ?_); intro kw hk1 hk2) | refine xC (by omega) ?_ | refine xD ?_ | refine xE (by omega) ?_ | refine xF (by omega) ?_ | refine xG ?_ | refine xH ?_ | refine xI (by omega) ?_ | refine xJ (by omega) ?_ | (with_reducible refine stopA ?_) | refine Exists.intro _ (And.intro (by rfl) ?_) | refine GOp.via (by rfl) ?_ | (with_reducible first | refine stopO ?_ | refine stopE ?_ | refine stopD ?_ | refine stopW ?_ | refine stopG ?_ | refine stopC ?_ | refine stopR ?_)))
      exact Done'.mk rfl
    · have : m.isPrefixOf t = false := by
        cases hh : m.isPrefixOf t
        · rfl
        · have := (List.isPrefixOf_iff_prefix.1 hh).length_le
          omega
      rw [this]
      exact Done'.mk rfl
/-- The marks, in their order. -/
def marksL : List (List UInt8) := [[61, 61], [33, 61], [60, 61], [62, 61], [60], [62], [61], [43], [45], [42], [47], [37], [40], [41], [123], [125], [44], [59]]
def signC (at_ : Nat) : List VV := [iV 5, strV [59], iV 0, iV at_]
theorem marks_no : ∀ i, i < 17 → ∀ m, marksL[i]? = some m → ∀ r, m.isPrefixOf (59 :: r) = false := by
  intro i hi m hm r
  have tab : ((marksL.take 17).all fun m => match m with | [] => false | a :: _ => !(a == 59)) = true := by decide
  have key : ∀ m ∈ marksL.take 17, ∃ a w, m = a :: w ∧ (a == 59) = false := fun m hm => by
    have := List.all_eq_true.1 tab m hm
    cases m with
    | nil => cases this
    | cons a w => exact ⟨a, w, rfl, by simpa using this⟩
  have hmem : m ∈ marksL.take 17 := by
    have : (marksL.take 17)[i]? = some m := by rw [List.getElem?_take_of_lt hi]; exact hm
    exact List.mem_of_getElem? this
  obtain ⟨a, w, rfl, ha⟩ := key m hmem
  simp only [List.isPrefixOf, ha, Bool.false_and]
theorem sign59_call (r : List UInt8) (H : Heap) (hr : r.length ≤ 90000) : VCall Try.prog 13 [roB (59 :: r)] H (fun x K => x = .tp [.ag (signC 0), iV 1, iV 0] ∧ K = H) := by
  refine VCall.pure (by simp [nameless_roB]) (nameless_tp (by simp [iV, nameless_sc]; exact nameless_ag (by simp [signC, iV, strV, nameless_sc]))) ?_
  have hb : (59 :: r : List UInt8)[0]? = some 59 := rfl
  refine VCall.go Try.func13 rfl ?_
  repeat' (first | with_reducible refine And.intro ?_ ?_ | ((with_reducible intro hc); (try simp only [zA, zB, zC, zD, zE, zF, zG, zH, zI, zJ, zK, zL, zM, zN, zO, zP, zQ, zR, zS, zT, zU, zV, zW] at hc); (first | (exact absurd rfl hc) | (exact absurd trivial hc) | (exfalso; omega) | skip)) | ((conv => whnf); first | with_reducible refine And.intro ?_ ?_ | refine ifB_intro ?_ ?_ | refine xA (by omega) ?_ | ((refine xB ?_); intro kw hk1 hk2) | refine xC (by omega) ?_ | refine xD ?_ | refine xE (by omega) ?_ | refine xF (by omega) ?_ | refine xG ?_ | refine xH ?_ | refine xI (by omega) ?_ | refine xJ (by omega) ?_ | (with_reducible refine stopA ?_) | refine Exists.intro _ (And.intro (by (first | exact vat_of vagg_u8 (map_at hb) (mul1 rfl rfl) | rfl)) ?_) | refine GOp.via (by rfl) ?_ | (with_reducible first | refine stopO ?_ | refine stopE ?_ | refine stopD ?_ | refine stopW ?_ | refine stopG ?_) | (first | (refine GCall.mk ((letter59 _).mono ?_); rintro _ _ ⟨rfl, rfl⟩) | (refine GCall.mk ((digit59 _).mono ?_); rintro _ _ ⟨rfl, rfl⟩) | (refine GCall.mk (VCall.inl Try.func24 rfl ?_))) | (with_reducible refine stopC ?_) | (with_reducible refine stopR ?_)))
  all_goals (first | omega | (simp only [List.length_cons]; omega) | skip)
  refine GWP'.mk (GWP.loopA (α := Nat) [3, 4, 6, 39, 40, 41, 42, 43, 44, 45, 46, 47, 48, 49, 50, 51] [] (fun i => i ≤ 17) (fun i => [(39, iV i)]) (fun _ => []) 2 (fun i => 17 - i) 0 (Nat.zero_le _) ⟨rfl, rfl, (by repeat' (first | exact trivial | refine And.intro rfl ?_)), [], _, rfl, ⟨⟨_, rfl, .sc⟩, trivial⟩, .nil⟩ ?_)
  rintro i hi
  by_cases hil : i < 17
  · obtain ⟨m, hm⟩ := list_at (l := marksL) (i := i) (by show i < 18; omega)
    have hno := marks_no i hil m hm r
    repeat' (first | with_reducible refine And.intro ?_ ?_ | ((with_reducible intro hc); (try simp only [zA, zB, zC, zD, zE, zF, zG, zH, zI, zJ, zK, zL, zM, zN, zO, zP, zQ, zR, zS, zT, zU, zV, zW] at hc); (first | (exact absurd rfl hc) | (exact absurd trivial hc) | (exfalso; omega) | skip)) | ((conv => whnf); first | with_reducible refine And.intro ?_ ?_ | refine ifB_intro ?_ ?_ | refine xA (by omega) ?_ | ((refine xB ?_); intro kw hk1 hk2) | refine xC (by omega) ?_ | refine xD ?_ | refine xE (by omega) ?_ | refine xF (by omega) ?_ | refine xG ?_ | refine xH ?_ | refine xI (by omega) ?_ | refine xJ (by omega) ?_ | (with_reducible refine stopA ?_) | refine Exists.intro _ (And.intro (by (first | exact vat_of vagg_str (maps_at hm) ((Nat.zero_add _).trans (mul1 rfl rfl)) | rfl)) ?_) | refine GOp.via (by rfl) ?_ | (with_reducible first | refine stopO ?_ | refine stopE ?_ | refine stopD ?_ | refine stopW ?_ | refine stopG ?_) | (refine GCall.mk ((hasPrefix_call (59 :: r) m _ (b := 2) (n := m.length) (vs := m.map bV) rfl rfl rfl (by simp only [List.length_cons]; omega)).mono ?_); rintro _ _ ⟨rfl, rfl⟩) | (with_reducible refine stopC ?_) | (with_reducible refine stopR ?_)))
    all_goals (first | omega | skip)
    · rw [hno] at hc
      cases hc
    · exact Done'.mk ⟨i + 1, by omega, by omega, rfl, rfl, (by repeat' (first | exact trivial | refine And.intro rfl ?_)), [], _, rfl, ⟨⟨_, rfl, RenV.eq rfl (nameless_sc _)⟩, trivial⟩, .nil⟩
  · have hi : i = 17 := by omega
    subst hi
    have hm : marksL[17]? = some [59] := rfl
    have hyes : ([59] : List UInt8).isPrefixOf (59 :: r) = true := by simp [List.isPrefixOf]
    repeat' (first | with_reducible refine And.intro ?_ ?_ | ((with_reducible intro hc); (try simp only [zA, zB, zC, zD, zE, zF, zG, zH, zI, zJ, zK, zL, zM, zN, zO, zP, zQ, zR, zS, zT, zU, zV, zW] at hc); (first | (exact absurd rfl hc) | (exact absurd trivial hc) | (exfalso; omega) | skip)) | ((conv => whnf); first | with_reducible refine And.intro ?_ ?_ | refine ifB_intro ?_ ?_ | refine xA (by omega) ?_ | ((refine xB ?_); intro kw hk1 hk2) | refine xC (by omega) ?_ | refine xD ?_ | refine xE (by omega) ?_ | refine xF (by omega) ?_ | refine xG ?_ | refine xH ?_ | refine xI (by omega) ?_ | refine xJ (by omega) ?_ | (with_reducible refine stopA ?_) | refine Exists.intro _ (And.intro (by (first | exact vat_of vagg_str (maps_at hm) rfl | rfl)) ?_) | refine GOp.via (by rfl) ?_ | (with_reducible first | refine stopO ?_ | refine stopE ?_ | refine stopD ?_ | refine stopW ?_ | refine stopG ?_) | (refine GCall.mk ((hasPrefix_call (59 :: r) [59] _ (b := 2) (n := 1) (vs := [59].map bV) rfl rfl rfl (by simp only [List.length_cons]; omega)).mono ?_); rintro _ _ ⟨rfl, rfl⟩) | (with_reducible refine stopC ?_) | (with_reducible refine stopR ?_)))
    all_goals (first | omega | skip)
    exact Done'.mk rfl
end Go.Proofs.Ytbnemkdkeaiaoaa
