import Derived.Test.YtmmjgbdihgdekaaDoorI7
/- The document's value of two hexadecimal signs, walked. -/
namespace Go.Proofs.YtmmjgbdihgdekaaDoor
open Go Go.RowKit
set_option linter.unusedSimpArgs false
set_option linter.unusedVariables false
set_option maxRecDepth 100000
set_option maxHeartbeats 16000000
theorem low_hex0 : ∀ k : Fin 16, ∀ c : Fin 256, (lowB (hexD k.val) == lowB (UInt8.ofNat c.val)) = (hexN (UInt8.ofNat c.val) == k.val) := by decide +kernel
theorem low_hex (k : Nat) (hk : k < 16) (c : UInt8) : lowB (hexD k) = lowB c ↔ hexN c = k := by
  have h := low_hex0 ⟨k, hk⟩ ⟨c.toNat, c.toNat_lt⟩
  simp only [UInt8.ofNat_toNat] at h
  rw [Bool.eq_iff_iff, beq_iff_eq, beq_iff_eq] at h
  exact h
/-- The number of two signs; -1: they are none. -/
def hex2I (a b : UInt8) : Int := if hexN a < 16 ∧ hexN b < 16 then ((hexN a * 16 + hexN b : Nat) : Int) else -1
theorem hex3n_call (n : Nat) (hn : n < 256) (H : Heap) : VCall Tryd.prog 129 [.sc (.int .u8 (n : Int))] H (fun x K => x = strV [hexD (n / 16), hexD (n % 16)] ∧ K = H) := by
  have h := hex3_call (UInt8.ofNat n) H
  have e : (UInt8.ofNat n).toNat = n := by simp [Nat.mod_eq_of_lt hn]
  have e2 : bV (UInt8.ofNat n) = .sc (.int .u8 (n : Int)) := by unfold bV; rw [e]
  rw [e, e2] at h
  exact h
theorem value3_call (a b : UInt8) (H : Heap) : VCall Tryd.prog 161 [strV [a, b]] H (fun x K => x = iV (hex2I a b) ∧ K = H) := by
  refine VCall.pure (by simp [nameless_strV]) (nameless_sc _) ?_
  refine VCall.go Tryd.func161 rfl ?_
  repeat' (first | with_reducible refine And.intro ?_ ?_ | ((with_reducible intro hc); (try simp only [zA, zB, zC, zD, zE, zF, zG, zH, zI, zJ, zK, zL, zM, zN, zO, zP, zQ, zR, zS, zT, zU, zV, zW] at hc); (first | (exact absurd rfl hc) | (exact absurd trivial hc) | (exfalso; omega) | skip)) | exact Is.mk rfl rfl | ((conv => whnf); first | with_reducible refine And.intro ?_ ?_ | with_reducible intro hx | exact Is.mk rfl rfl | (with_reducible first | apply Val.via | apply ValH.via) | refine ifB_intro ?_ ?_ | refine xA (by omega) ?_ | ((refine xB ?_); intro kw hk1 hk2) | refine xC (by omega) ?_ | refine xD ?_ | refine xE (by omega) ?_ | refine xF (by omega) ?_ | refine xG ?_ | refine xH ?_ | refine xI (by omega) ?_ | refine xJ (by omega) ?_ | (with_reducible refine stopA ?_) | refine Exists.intro _ (And.intro (by rfl) ?_) | refine GOp.drawn (by rfl) (by rfl) (Nat.le_of_ble_eq_true (by rfl)) (by rfl) | refine GOp.via (by rfl) ?_ | refine GWP.drawY mixed _ (by kernel_rfl) (by rfl) ?_ | fail | (with_reducible first | refine stopO ?_ | refine stopE ?_ | refine stopD ?_ | refine stopW ?_ | refine stopG ?_ | refine stopC ?_ | refine stopR ?_)))
  (refine GWP'.mk (GWP.loopB [] (fun (n : Nat) => n ≤ 256 ∧ ∀ m, m < n → ¬ (hexN a = m / 16 ∧ hexN b = m % 16)) (fun n => [(3, iV n)]) (fun s => []) 0 (fun n => 256 - n) 0 ⟨Nat.zero_le _, fun m hm => by omega⟩ ?_); (conv => whnf); refine And.intro ?_ ?_)
  · focus (refine KeptA.of [] rfl rfl (by repeat' (first | exact trivial | refine And.intro rfl ?_)) rfl ?_ ?_; all_goals (repeat' (first | exact trivial | (refine And.intro ?_ ?_) | (refine Exists.intro _ (And.intro rfl ?_)) | (refine RenO.opt ?_) | (refine RenO.toOpt ?_) | (refine RenO.cells ?_) | exact RenO.defs | exact RenL.nil | (refine RenL.cons ?_ ?_) | (first | fail | (with_reducible exact RenV.sc) | exact RenV.gsN | exact RenV.gsZ | exact RenV.gsL (by decide) | exact RenV.slL (by decide) | ((first | refine RenV.gsE (by (first | exact List.Mem.head _ | exact List.Mem.tail _ (List.Mem.head _) | exact List.Mem.tail _ (List.Mem.tail _ (List.Mem.head _)) | (simp; done))) ?_ | refine RenV.eq (scI_eq ?_) (nameless_sc _)); (first | rfl | omega | (simp only [List.length_append, List.length_cons, List.length_nil, List.length_map, List.length_take, List.length_drop] <;> omega) | (simp only <;> omega) | (simp <;> omega))) | exact RenV.undef) | (with_unfolding_all exact (rfl : (_ : VObj) = _)))))
  rintro n ⟨h1, h2⟩
  by_cases hn : n < 256
  · have k1 := fun H => hex3n_call n hn H
    have k2 := fun H => rlower_call [hexD (n / 16), hexD (n % 16)] H (by simp)
    have k3 := fun H => rlower_call [a, b] H (by simp)
    have q1 := low_hex (n / 16) (by omega) a
    have q2 := low_hex (n % 16) (by omega) b
    simp only [List.map_cons, List.map_nil] at k2 k3
    by_cases hq : hexN a = n / 16 ∧ hexN b = n % 16
    · have e1 := q1.2 hq.1
      have e2 := q2.2 hq.2
      rw [e1, e2] at k2
      repeat' (first | with_reducible refine And.intro ?_ ?_ | ((with_reducible intro hc); (try simp only [zA, zB, zC, zD, zE, zF, zG, zH, zI, zJ, zK, zL, zM, zN, zO, zP, zQ, zR, zS, zT, zU, zV, zW] at hc); (first | (exact absurd rfl hc) | (exact absurd trivial hc) | (exfalso; omega) | skip)) | exact Is.mk rfl rfl | ((conv => whnf); first | with_reducible refine And.intro ?_ ?_ | with_reducible intro hx | exact Is.mk rfl rfl | (with_reducible first | apply Val.via | apply ValH.via) | refine ifB_intro ?_ ?_ | refine xA (by omega) ?_ | ((refine xB ?_); intro kw hk1 hk2) | refine xC (by omega) ?_ | refine xD ?_ | refine xE (by omega) ?_ | refine xF (by omega) ?_ | refine xG ?_ | refine xH ?_ | refine xI (by omega) ?_ | refine xJ (by omega) ?_ | (with_reducible refine stopA ?_) | refine Exists.intro _ (And.intro (by (first | exact vat_of rfl rfl rfl | rfl)) ?_) | refine GOp.drawn (by rfl) (by rfl) (Nat.le_of_ble_eq_true (by rfl)) (by rfl) | refine GOp.via (by rfl) ?_ | refine GWP.drawY mixed _ (by kernel_rfl) (by rfl) ?_ | (first | (refine GCall.mk ((k1 _).mono ?_); rintro _ _ ⟨rfl, rfl⟩) | (refine GCall.mk ((k2 _).mono ?_); rintro _ _ ⟨rfl, rfl⟩) | (refine GCall.mk ((k3 _).mono ?_); rintro _ _ ⟨rfl, rfl⟩)) | (with_reducible first | refine stopO ?_ | refine stopE ?_ | refine stopD ?_ | refine stopW ?_ | refine stopG ?_ | refine stopC ?_ | refine stopR ?_)))
      all_goals (first | omega | skip)
      refine Done'.mk ?_
      refine congrArg iV ?_
      unfold hex2I
      rw [if_pos (by omega)]
      omega
    · have e3 : ¬ [lowB (hexD (n / 16)), lowB (hexD (n % 16))] = [lowB a, lowB b] := fun e => by
        injection e with e4 e5
        injection e5 with e5 _
        exact hq ⟨q1.1 e4, q2.1 e5⟩
      generalize [lowB (hexD (n / 16)), lowB (hexD (n % 16))] = u at *
      generalize [lowB a, lowB b] = w at *
      repeat' (first | with_reducible refine And.intro ?_ ?_ | ((with_reducible intro hc); (try simp only [zA, zB, zC, zD, zE, zF, zG, zH, zI, zJ, zK, zL, zM, zN, zO, zP, zQ, zR, zS, zT, zU, zV, zW] at hc); (first | (exact absurd rfl hc) | (exact absurd trivial hc) | (exfalso; omega) | skip)) | exact Is.mk rfl rfl | ((conv => whnf); first | with_reducible refine And.intro ?_ ?_ | with_reducible intro hx | exact Is.mk rfl rfl | (with_reducible first | apply Val.via | apply ValH.via) | refine ifB_intro ?_ ?_ | refine xA (by omega) ?_ | ((refine xB ?_); intro kw hk1 hk2) | refine xC (by omega) ?_ | refine xD ?_ | refine xE (by omega) ?_ | refine xF (by omega) ?_ | refine xG ?_ | refine xH ?_ | refine xI (by omega) ?_ | refine xJ (by omega) ?_ | (with_reducible refine stopA ?_) | refine Exists.intro _ (And.intro (by (first | exact vat_of rfl rfl rfl | rfl)) ?_) | refine GOp.drawn (by rfl) (by rfl) (Nat.le_of_ble_eq_true (by rfl)) (by rfl) | refine GOp.via (by rfl) ?_ | refine GWP.drawY mixed _ (by kernel_rfl) (by rfl) ?_ | (first | (refine GCall.mk ((k1 _).mono ?_); rintro _ _ ⟨rfl, rfl⟩) | (refine GCall.mk ((k2 _).mono ?_); rintro _ _ ⟨rfl, rfl⟩) | (refine GCall.mk ((k3 _).mono ?_); rintro _ _ ⟨rfl, rfl⟩)) | (with_reducible first | refine stopO ?_ | refine stopE ?_ | refine stopD ?_ | refine stopW ?_ | refine stopG ?_ | refine stopC ?_ | refine stopR ?_)))
      all_goals (first | omega | skip)
      · exact absurd hc e3
      focus (refine Done'.mk ⟨(n + 1), ⟨by omega, fun m hm => by by_cases e : m = n; (subst e; exact hq); exact h2 m (by omega)⟩, ?_, KeptA.of [] rfl rfl (by repeat' (first | exact trivial | refine And.intro rfl ?_)) rfl ?_ ?_⟩; (first | omega | (simp only; omega)); all_goals (repeat' (first | exact trivial | (refine And.intro ?_ ?_) | (refine Exists.intro _ (And.intro rfl ?_)) | (refine RenO.opt ?_) | (refine RenO.toOpt ?_) | (refine RenO.cells ?_) | exact RenO.defs | exact RenL.nil | (refine RenL.cons ?_ ?_) | (first | (exact RenV.eq (scI_eq (by omega)) (nameless_sc _)) | (with_reducible exact RenV.sc) | exact RenV.gsN | exact RenV.gsZ | exact RenV.gsL (by decide) | exact RenV.slL (by decide) | ((first | refine RenV.gsE (by (first | exact List.Mem.head _ | exact List.Mem.tail _ (List.Mem.head _) | exact List.Mem.tail _ (List.Mem.tail _ (List.Mem.head _)) | (simp; done))) ?_ | refine RenV.eq (scI_eq ?_) (nameless_sc _)); (first | rfl | omega | (simp only [List.length_append, List.length_cons, List.length_nil, List.length_map, List.length_take, List.length_drop] <;> omega) | (simp only <;> omega) | (simp <;> omega))) | exact RenV.undef) | (with_unfolding_all exact (rfl : (_ : VObj) = _)))))
  · obtain rfl : n = 256 := by omega
    repeat' (first | with_reducible refine And.intro ?_ ?_ | ((with_reducible intro hc); (try simp only [zA, zB, zC, zD, zE, zF, zG, zH, zI, zJ, zK, zL, zM, zN, zO, zP, zQ, zR, zS, zT, zU, zV, zW] at hc); (first | (exact absurd rfl hc) | (exact absurd trivial hc) | (exfalso; omega) | skip)) | exact Is.mk rfl rfl | ((conv => whnf); first | with_reducible refine And.intro ?_ ?_ | with_reducible intro hx | exact Is.mk rfl rfl | (with_reducible first | apply Val.via | apply ValH.via) | refine ifB_intro ?_ ?_ | refine xA (by omega) ?_ | ((refine xB ?_); intro kw hk1 hk2) | refine xC (by omega) ?_ | refine xD ?_ | refine xE (by omega) ?_ | refine xF (by omega) ?_ | refine xG ?_ | refine xH ?_ | refine xI (by omega) ?_ | refine xJ (by omega) ?_ | (with_reducible refine stopA ?_) | refine Exists.intro _ (And.intro (by rfl) ?_) | refine GOp.drawn (by rfl) (by rfl) (Nat.le_of_ble_eq_true (by rfl)) (by rfl) | refine GOp.via (by rfl) ?_ | refine GWP.drawY mixed _ (by kernel_rfl) (by rfl) ?_ | fail | (with_reducible first | refine stopO ?_ | refine stopE ?_ | refine stopD ?_ | refine stopW ?_ | refine stopG ?_ | refine stopC ?_ | refine stopR ?_)))
    all_goals (first | omega | skip)
    refine Done'.mk ?_
    have : hex2I a b = -1 := by
      unfold hex2I
      by_cases e : hexN a < 16 ∧ hexN b < 16
      · exact absurd ⟨by omega, by omega⟩ (h2 (hexN a * 16 + hexN b) (by omega))
      · rw [if_neg e]
    rw [this]
    rfl
end Go.Proofs.YtmmjgbdihgdekaaDoor

/- What the document's plain tells, in plain words. -/
namespace Go.Proofs.YtmmjgbdihgdekaaDoor
open Go Go.RowKit
set_option linter.unusedSimpArgs false
set_option linter.unusedVariables false
/-- The document's items: bytes, and whether they were coded. -/
def itB : List UInt8 → Option (List (UInt8 × Bool))
  | [] => some []
  | [c] => if c ≠ 37 then some [(c, false)] else none
  | [c, d] => if c ≠ 37 then (itB [d]).map ((c, false) :: ·) else none
  | c :: a :: b :: r => if c ≠ 37 then (itB (a :: b :: r)).map ((c, false) :: ·) else if hexN a < 16 ∧ hexN b < 16 then (itB r).map ((UInt8.ofNat (hexN a * 16 + hexN b), true) :: ·) else none
def fixI (x : UInt8 × Bool) : UInt8 := if x.1 = 43 ∧ x.2 = false then 32 else x.1
def s43 (c : UInt8) : UInt8 := if c = 43 then 32 else c
theorem hexN_s43 : ∀ k : Fin 256, hexN (s43 (UInt8.ofNat k.val)) = hexN (UInt8.ofNat k.val) := by decide +kernel
theorem hexN_s (c : UInt8) : hexN (s43 c) = hexN c := by
  have h := hexN_s43 ⟨c.toNat, c.toNat_lt⟩
  simpa using h
theorem s43_37 (c : UInt8) : s43 c = 37 ↔ c = 37 := by
  unfold s43
  split
  · rename_i h; subst h; decide
  · exact Iff.rfl
theorem map_fix (c : UInt8) (x : Option (List (UInt8 × Bool))) : (x.map ((c, false) :: ·)).map (·.map fixI) = (x.map (·.map fixI)).map (s43 c :: ·) := by
  cases x <;> simp [fixI, s43]
theorem map_fixT (c : UInt8) (x : Option (List (UInt8 × Bool))) : (x.map ((c, true) :: ·)).map (·.map fixI) = (x.map (·.map fixI)).map (c :: ·) := by
  cases x <;> simp [fixI]
theorem items_dc : ∀ l : List UInt8, (itB l).map (·.map fixI) = dcB (l.map s43)
  | [] => rfl
  | [c] => by
    rw [itB, dcB_next (by simp)]
    by_cases h : c = 37
    · subst h; simp [rdB, s43]
    · have : s43 c ≠ 37 := fun e => h ((s43_37 c).1 e)
      rw [if_pos h]
      simp only [List.map_cons, List.map_nil, rdB_plain _ this]
      have e : dcB [] = some [] := rfl
      rw [e]
      simp [fixI, s43]
  | [c, d] => by
    have ih := items_dc [d]
    rw [itB, dcB_next (by simp)]
    by_cases h : c = 37
    · subst h; simp [rdB, s43]
    · have : s43 c ≠ 37 := fun e => h ((s43_37 c).1 e)
      rw [if_pos h, map_fix, ih]
      simp only [List.map_cons, List.map_nil, rdB_plain _ this]
  | c :: a :: b :: r => by
    have ih := items_dc (a :: b :: r)
    have ih2 := items_dc r
    rw [itB, dcB_next (by simp)]
    by_cases h : c = 37
    · subst h
      rw [if_neg (by simp)]
      have e : s43 37 = 37 := by decide
      simp only [List.map_cons, e, rdB_hex, hexN_s]
      split
      · rw [map_fixT, ih2]
      · rfl
    · have : s43 c ≠ 37 := fun e => h ((s43_37 c).1 e)
      rw [if_pos h, map_fix, ih]
      simp only [List.map_cons, rdB_plain _ this]
theorem plain_items (l : List UInt8) : (itB l).map (·.map fixI) = plainB l := items_dc l
end Go.Proofs.YtmmjgbdihgdekaaDoor

/- The document's Split, Items and plain, walked. -/
namespace Go.Proofs.YtmmjgbdihgdekaaDoor
open Go Go.RowKit
set_option linter.unusedSimpArgs false
set_option linter.unusedVariables false
set_option maxRecDepth 100000
set_option maxHeartbeats 16000000
theorem sty_sP : SlTy Tryd.prog 57 1 16 := ⟨⟨_, _, _, rfl, rfl, rfl, rfl, rfl, rfl⟩⟩
theorem frz_roS {K : Heap} {b n : Nat} {l : List (List UInt8)} (hg : K.get b = some (.opt (l.map strV))) (hn : n = l.length) : Frz K (.gs b n 1) (roS l) := by
  subst hn
  exact Frz.gs hg (by simp) (nameless_map nameless_strV l)
theorem rsplit_call (l : List UInt8) (b : UInt8) (H : Heap) (hl : l.length ≤ 100000) : VCall Tryd.prog 83 [strV l, bV b] H (fun x K => x = roS (splitB l b) ∧ K = H) := by
  refine VCall.frozen (Q := fun v K => Frz K v (roS (splitB l b))) (by simp [nameless_strV, nameless_bV]) ?_ (fun v K h => h)
  refine VCall.go Tryd.func83 rfl ?_
  have htz := szP l
  have hmax : (IntKind.i64.max : Int) = 9223372036854775807 := by decide
  repeat' (first | with_reducible refine And.intro ?_ ?_ | ((with_reducible intro hc); (try simp only [zA, zB, zC, zD, zE, zF, zG, zH, zI, zJ, zK, zL, zM, zN, zO, zP, zQ, zR, zS, zT, zU, zV, zW] at hc); (first | (exact absurd rfl hc) | (exact absurd trivial hc) | (exfalso; omega) | skip)) | exact Is.mk rfl rfl | ((conv => whnf); first | with_reducible refine And.intro ?_ ?_ | with_reducible intro hx | exact Is.mk rfl rfl | (with_reducible first | apply Val.via | apply ValH.via) | refine ifB_intro ?_ ?_ | refine xA (by omega) ?_ | ((refine xB ?_); intro kw hk1 hk2) | refine xC (by omega) ?_ | refine xD ?_ | refine xE (by omega) ?_ | refine xF (by omega) ?_ | refine xG ?_ | refine xH ?_ | refine xI (by omega) ?_ | refine xJ (by omega) ?_ | (with_reducible refine stopA ?_) | refine Exists.intro _ (And.intro (by rfl) ?_) | refine GOp.drawn (by rfl) (by rfl) (Nat.le_of_ble_eq_true (by rfl)) (by rfl) | refine GOp.via (by rfl) ?_ | refine GWP.drawY mixed _ (by kernel_rfl) (by rfl) ?_ | fail | (with_reducible first | refine stopO ?_ | refine stopE ?_ | refine stopD ?_ | refine stopW ?_ | refine stopG ?_ | refine stopC ?_ | refine stopR ?_)))
  (refine GWP'.mk (GWP.loopB [0] (fun (s : List (List UInt8) × List UInt8 × Nat) => s.2.2 ≤ l.length ∧ s.1 ++ splitGo b (l.drop s.2.2) s.2.1 = splitB l b ∧ s.1.length ≤ s.2.2 ∧ s.2.1.length ≤ s.2.2) (fun s => [(5, .gs 1 s.1.length 1), (6, strV s.2.1), (7, iV s.2.2)]) (fun s => [(1, .opt (s.1.map strV))]) 2 (fun s => l.length - s.2.2) ([], [], 0) ⟨Nat.zero_le _, rfl, Nat.le_refl _, Nat.le_refl _⟩ ?_); (conv => whnf); refine And.intro ?_ ?_)
  · focus (refine KeptA.of [] rfl rfl (by repeat' (first | exact trivial | refine And.intro rfl ?_)) rfl ?_ ?_; all_goals (repeat' (first | exact trivial | (refine And.intro ?_ ?_) | (refine Exists.intro _ (And.intro rfl ?_)) | (refine RenO.opt ?_) | (refine RenO.toOpt ?_) | (refine RenO.cells ?_) | exact RenO.defs | exact RenL.nil | (refine RenL.cons ?_ ?_) | (first | (first | exact RenV.gsZ | exact RenV.of (nameless_strV [])) | (with_reducible exact RenV.sc) | exact RenV.gsN | exact RenV.gsZ | exact RenV.gsL (by decide) | exact RenV.slL (by decide) | ((first | refine RenV.gsE (by (first | exact List.Mem.head _ | exact List.Mem.tail _ (List.Mem.head _) | exact List.Mem.tail _ (List.Mem.tail _ (List.Mem.head _)) | (simp; done))) ?_ | refine RenV.eq (scI_eq ?_) (nameless_sc _)); (first | rfl | omega | (simp only [List.length_append, List.length_cons, List.length_nil, List.length_map, List.length_take, List.length_drop] <;> omega) | (simp only <;> omega) | (simp <;> omega))) | exact RenV.undef) | (with_unfolding_all exact (rfl : (_ : VObj) = _)))))
  rintro ⟨done, cur, i⟩ ⟨h1, h2, h3, h4⟩
  simp only at h1 h2 h3 h4 ⊢
  by_cases hil : i < l.length
  · obtain ⟨c, hb⟩ : ∃ c, l[i]? = some c := ⟨l[i], List.getElem?_eq_getElem hil⟩
    have hext := ext_one hb
    rw [splitGo_at hb] at h2
    by_cases hcb : c = b
    · subst hcb
      rw [if_pos rfl] at h2
      repeat' (first | with_reducible refine And.intro ?_ ?_ | ((with_reducible intro hc); (try simp only [zA, zB, zC, zD, zE, zF, zG, zH, zI, zJ, zK, zL, zM, zN, zO, zP, zQ, zR, zS, zT, zU, zV, zW] at hc); (first | (exact absurd rfl hc) | (exact absurd trivial hc) | (exfalso; omega) | skip)) | exact Is.mk rfl rfl | ((conv => whnf); first | with_reducible refine And.intro ?_ ?_ | with_reducible intro hx | exact Is.mk rfl rfl | (with_reducible first | apply Val.via | apply ValH.via) | refine ifB_intro ?_ ?_ | refine xA (by omega) ?_ | ((refine xB ?_); intro kw hk1 hk2) | refine xC (by omega) ?_ | refine xD ?_ | refine xE (by omega) ?_ | refine xF (by omega) ?_ | refine xG ?_ | refine xH ?_ | refine xI (by omega) ?_ | refine xJ (by omega) ?_ | (with_reducible refine stopA ?_) | refine Exists.intro _ (And.intro (by (first | exact hb | exact vat_of rfl rfl rfl | rfl)) ?_) | refine GOp.drawn (by rfl) (by rfl) (Nat.le_of_ble_eq_true (by rfl)) (by rfl) | refine GOp.via (by rfl) ?_ | refine GWP.drawY mixed _ (by kernel_rfl) (by rfl) ?_ | (refine stopO (GOp'.grow rfl sty_sP (d := .slice 9) Tryd.underlying57 (by intro k h; cases h) rfl (m := 1) (l := [strV cur]) (by rfl) (by rfl) rfl (by simp) (by omega) (by omega) ?_)) | (with_reducible first | refine stopO ?_ | refine stopE ?_ | refine stopD ?_ | refine stopW ?_ | refine stopG ?_ | refine stopC ?_ | refine stopR ?_)))
      all_goals (first | omega | skip)
      focus (refine Done'.mk ⟨(done ++ [cur], [], i + 1), ⟨by simp only; omega, by simp only; rw [← h2]; simp, by simp only [List.length_append, List.length_cons, List.length_nil]; omega, by simp⟩, ?_, KeptA.of [(3, 1)] rfl rfl (by repeat' (first | exact trivial | refine And.intro rfl ?_)) rfl ?_ ?_⟩; (first | omega | (simp only; omega)); all_goals (repeat' (first | exact trivial | (refine And.intro ?_ ?_) | (refine Exists.intro _ (And.intro rfl ?_)) | (refine RenO.opt ?_) | (refine RenO.toOpt ?_) | (refine RenO.cells ?_) | exact RenO.defs | exact RenL.nil | (refine RenL.cons ?_ ?_) | (first | (first | exact RenL.eq (by simp) (nameless_map nameless_strV _) | exact RenV.of (nameless_strV []) | exact RenV.eq (scI_eq (by omega)) (nameless_sc _)) | (with_reducible exact RenV.sc) | exact RenV.gsN | exact RenV.gsZ | exact RenV.gsL (by decide) | exact RenV.slL (by decide) | ((first | refine RenV.gsE (by (first | exact List.Mem.head _ | exact List.Mem.tail _ (List.Mem.head _) | exact List.Mem.tail _ (List.Mem.tail _ (List.Mem.head _)) | (simp; done))) ?_ | refine RenV.eq (scI_eq ?_) (nameless_sc _)); (first | rfl | omega | (simp only [List.length_append, List.length_cons, List.length_nil, List.length_map, List.length_take, List.length_drop] <;> omega) | (simp only <;> omega) | (simp <;> omega))) | exact RenV.undef) | (with_unfolding_all exact (rfl : (_ : VObj) = _)))))
    · rw [if_neg hcb] at h2
      have hcn : c.toNat ≠ b.toNat := fun e => hcb (UInt8.toNat_inj.1 e)
      repeat' (first | with_reducible refine And.intro ?_ ?_ | ((with_reducible intro hc); (try simp only [zA, zB, zC, zD, zE, zF, zG, zH, zI, zJ, zK, zL, zM, zN, zO, zP, zQ, zR, zS, zT, zU, zV, zW] at hc); (first | (exact absurd rfl hc) | (exact absurd trivial hc) | (exfalso; omega) | skip)) | exact Is.mk rfl rfl | ((conv => whnf); first | with_reducible refine And.intro ?_ ?_ | with_reducible intro hx | exact Is.mk rfl rfl | (with_reducible first | apply Val.via | apply ValH.via) | refine ifB_intro ?_ ?_ | refine xA (by omega) ?_ | ((refine xB ?_); intro kw hk1 hk2) | refine xC (by omega) ?_ | refine xD ?_ | refine xE (by omega) ?_ | refine xF (by omega) ?_ | refine xG ?_ | refine xH ?_ | refine xI (by omega) ?_ | refine xJ (by omega) ?_ | (with_reducible refine stopA ?_) | refine Exists.intro _ (And.intro (by (first | exact hb | exact vat_of rfl rfl rfl | rfl)) ?_) | refine GOp.drawn (by rfl) (by rfl) (Nat.le_of_ble_eq_true (by rfl)) (by rfl) | refine GOp.via (by rfl) ?_ | refine GWP.drawY mixed _ (by kernel_rfl) (by rfl) ?_ | fail | (with_reducible first | refine stopO ?_ | refine stopE ?_ | refine stopD ?_ | refine stopW ?_ | refine stopG ?_ | refine stopC ?_ | refine stopR ?_)))
      all_goals (first | omega | (exfalso; rw [hmax] at hx; simp only [hext, szP, List.length_append, List.length_cons, List.length_nil] at hx; omega) | skip)
      focus (refine Done'.mk ⟨(done, cur ++ [c], i + 1), ⟨by simp only; omega, by simp only; exact h2, by simp only; omega, by simp only [List.length_append, List.length_cons, List.length_nil]; omega⟩, ?_, KeptA.of [(1, 1)] rfl rfl (by repeat' (first | exact trivial | refine And.intro rfl ?_)) rfl ?_ ?_⟩; (first | omega | (simp only; omega)); all_goals (repeat' (first | exact trivial | (refine And.intro ?_ ?_) | (refine Exists.intro _ (And.intro rfl ?_)) | (refine RenO.opt ?_) | (refine RenO.toOpt ?_) | (refine RenO.cells ?_) | exact RenO.defs | exact RenL.nil | (refine RenL.cons ?_ ?_) | (first | (first | exact RenL.of (nameless_map nameless_strV _) | exact RenV.eq (congrArg (fun z => VV.sc (.string z)) ((congrArg (fun z => (⟨cur.toArray⟩ : ByteArray) ++ z) hext).trans (app_strP cur [c]))) (nameless_sc _) | exact RenV.eq (scI_eq (by omega)) (nameless_sc _)) | (with_reducible exact RenV.sc) | exact RenV.gsN | exact RenV.gsZ | exact RenV.gsL (by decide) | exact RenV.slL (by decide) | ((first | refine RenV.gsE (by (first | exact List.Mem.head _ | exact List.Mem.tail _ (List.Mem.head _) | exact List.Mem.tail _ (List.Mem.tail _ (List.Mem.head _)) | (simp; done))) ?_ | refine RenV.eq (scI_eq ?_) (nameless_sc _)); (first | rfl | omega | (simp only [List.length_append, List.length_cons, List.length_nil, List.length_map, List.length_take, List.length_drop] <;> omega) | (simp only <;> omega) | (simp <;> omega))) | exact RenV.undef) | (with_unfolding_all exact (rfl : (_ : VObj) = _)))))
  · obtain rfl : i = l.length := by omega
    rw [List.drop_length] at h2
    have h2 : done ++ [cur] = splitB l b := h2
    rw [← h2]
    repeat' (first | with_reducible refine And.intro ?_ ?_ | ((with_reducible intro hc); (try simp only [zA, zB, zC, zD, zE, zF, zG, zH, zI, zJ, zK, zL, zM, zN, zO, zP, zQ, zR, zS, zT, zU, zV, zW] at hc); (first | (exact absurd rfl hc) | (exact absurd trivial hc) | (exfalso; omega) | skip)) | exact Is.mk rfl rfl | ((conv => whnf); first | with_reducible refine And.intro ?_ ?_ | with_reducible intro hx | exact Is.mk rfl rfl | (with_reducible first | apply Val.via | apply ValH.via) | refine ifB_intro ?_ ?_ | refine xA (by omega) ?_ | ((refine xB ?_); intro kw hk1 hk2) | refine xC (by omega) ?_ | refine xD ?_ | refine xE (by omega) ?_ | refine xF (by omega) ?_ | refine xG ?_ | refine xH ?_ | refine xI (by omega) ?_ | refine xJ (by omega) ?_ | (with_reducible refine stopA ?_) | refine Exists.intro _ (And.intro (by rfl) ?_) | refine GOp.drawn (by rfl) (by rfl) (Nat.le_of_ble_eq_true (by rfl)) (by rfl) | refine GOp.via (by rfl) ?_ | refine GWP.drawY mixed _ (by kernel_rfl) (by rfl) ?_ | (refine stopO (GOp'.grow rfl sty_sP (d := .slice 9) Tryd.underlying57 (by intro k h; cases h) rfl (m := 1) (l := [strV cur]) (by rfl) (by rfl) rfl (by simp) (by omega) (by omega) ?_)) | (with_reducible first | refine stopO ?_ | refine stopE ?_ | refine stopD ?_ | refine stopW ?_ | refine stopG ?_ | refine stopC ?_ | refine stopR ?_)))
    all_goals (first | omega | skip)
    exact Done'.mk (frz_roS (l := done ++ [cur]) (by rw [List.map_append]; rfl) (by simp))
/-- The document's items, as rows. -/
def rowsI (l : List (UInt8 × Bool)) : List VV := l.flatMap fun f => [bV f.1, booV f.2]
theorem rowsI_len (l : List (UInt8 × Bool)) : (rowsI l).length = l.length * 2 := by
  induction l with
  | nil => rfl
  | cons a r ih =>
    show (bV a.1 :: booV a.2 :: rowsI r).length = _
    simp only [List.length_cons, ih]
    omega
theorem rowsI_nameless (l : List (UInt8 × Bool)) : ∀ v ∈ rowsI l, Nameless v := fun v hv => by
  obtain ⟨f, _, h⟩ := List.mem_flatMap.1 hv
  simp only [List.mem_cons, List.not_mem_nil, or_false] at h
  rcases h with rfl | rfl
  · exact nameless_bV _
  · exact nameless_sc _
theorem rowsI_snoc (l : List (UInt8 × Bool)) (f : UInt8 × Bool) : rowsI (l ++ [f]) = rowsI l ++ [bV f.1, booV f.2] := by
  unfold rowsI
  rw [List.flatMap_append, List.flatMap_cons, List.flatMap_nil, List.append_nil]
theorem sty_I2 : SlTy Tryd.prog 163 2 2 := ⟨⟨_, _, _, rfl, rfl, rfl, rfl, rfl, rfl⟩⟩
def itV : Option (List (UInt8 × Bool)) → VV
  | none => .tp [.ro 0 [], booV false]
  | some l => .tp [.ro l.length (rowsI l), booV true]
theorem itB_plain {c : UInt8} (h : c ≠ 37) : ∀ r, itB (c :: r) = (itB r).map ((c, false) :: ·)
  | [] => by
    have e : itB [c] = if c ≠ 37 then some [(c, false)] else none := by rw [itB]
    rw [e, if_pos h]
    rfl
  | [d] => by
    have e : itB [c, d] = if c ≠ 37 then (itB [d]).map ((c, false) :: ·) else none := by conv => lhs; unfold itB
    rw [e, if_pos h]
  | a :: b :: r => by rw [itB, if_pos h]
theorem itB_hex (a b : UInt8) (r : List UInt8) : itB (37 :: a :: b :: r) = if hexN a < 16 ∧ hexN b < 16 then (itB r).map ((UInt8.ofNat (hexN a * 16 + hexN b), true) :: ·) else none := by
  rw [itB, if_neg (by simp)]
theorem itB_short {r : List UInt8} (h : r.length < 2) : itB (37 :: r) = none := by
  match r, h with
  | [], _ => rw [itB, if_neg (by simp)]
  | [d], _ => rw [itB, if_neg (by simp)]
theorem items3_call (l : List UInt8) (hl : l.length ≤ 100000) (H : Heap) : VCall Tryd.prog 127 [strV l] H (fun v K => v = itV (itB l) ∧ K = H) := by
  refine VCall.frozen (Q := fun v K => Frz K v (itV (itB l))) (by simp [nameless_strV]) ?_ (fun v K h => h)
  refine VCall.go Tryd.func127 rfl ?_
  have htz := szP l
  repeat' (first | with_reducible refine And.intro ?_ ?_ | ((with_reducible intro hc); (try simp only [zA, zB, zC, zD, zE, zF, zG, zH, zI, zJ, zK, zL, zM, zN, zO, zP, zQ, zR, zS, zT, zU, zV, zW] at hc); (first | (exact absurd rfl hc) | (exact absurd trivial hc) | (exfalso; omega) | skip)) | exact Is.mk rfl rfl | ((conv => whnf); first | with_reducible refine And.intro ?_ ?_ | with_reducible intro hx | exact Is.mk rfl rfl | (with_reducible first | apply Val.via | apply ValH.via) | refine ifB_intro ?_ ?_ | refine xA (by omega) ?_ | ((refine xB ?_); intro kw hk1 hk2) | refine xC (by omega) ?_ | refine xD ?_ | refine xE (by omega) ?_ | refine xF (by omega) ?_ | refine xG ?_ | refine xH ?_ | refine xI (by omega) ?_ | refine xJ (by omega) ?_ | (with_reducible refine stopA ?_) | refine Exists.intro _ (And.intro (by rfl) ?_) | refine GOp.drawn (by rfl) (by rfl) (Nat.le_of_ble_eq_true (by rfl)) (by rfl) | refine GOp.via (by rfl) ?_ | refine GWP.drawY mixed _ (by kernel_rfl) (by rfl) ?_ | fail | (with_reducible first | refine stopO ?_ | refine stopE ?_ | refine stopD ?_ | refine stopW ?_ | refine stopG ?_ | refine stopC ?_ | refine stopR ?_)))
  (refine GWP'.mk (GWP.loopB [0] (fun (s : List (UInt8 × Bool) × Nat) => s.2 ≤ l.length ∧ (itB (l.drop s.2)).map (s.1 ++ ·) = itB l ∧ s.1.length ≤ s.2) (fun s => [(4, .gs 1 s.1.length 2), (5, iV s.2)]) (fun s => [(1, .opt (rowsI s.1))]) 2 (fun s => l.length - s.2) ([], 0) ⟨Nat.zero_le _, by simp, Nat.le_refl _⟩ ?_); (conv => whnf); refine And.intro ?_ ?_)
  · focus (refine KeptA.of [] rfl rfl (by repeat' (first | exact trivial | refine And.intro rfl ?_)) rfl ?_ ?_; all_goals (repeat' (first | exact trivial | (refine And.intro ?_ ?_) | (refine Exists.intro _ (And.intro rfl ?_)) | (refine RenO.opt ?_) | (refine RenO.toOpt ?_) | (refine RenO.cells ?_) | exact RenO.defs | exact RenL.nil | (refine RenL.cons ?_ ?_) | (first | exact RenV.gsZ | (with_reducible exact RenV.sc) | exact RenV.gsN | exact RenV.gsZ | exact RenV.gsL (by decide) | exact RenV.slL (by decide) | ((first | refine RenV.gsE (by (first | exact List.Mem.head _ | exact List.Mem.tail _ (List.Mem.head _) | exact List.Mem.tail _ (List.Mem.tail _ (List.Mem.head _)) | (simp; done))) ?_ | refine RenV.eq (scI_eq ?_) (nameless_sc _)); (first | rfl | omega | (simp only [List.length_append, List.length_cons, List.length_nil, List.length_map, List.length_take, List.length_drop] <;> omega) | (simp only <;> omega) | (simp <;> omega))) | exact RenV.undef) | (with_unfolding_all exact (rfl : (_ : VObj) = _)))))
  rintro ⟨done, i⟩ ⟨h1, h2, h3⟩
  simp only at h1 h2 h3 ⊢
  have hrl := rowsI_len done
  by_cases hil : i < l.length
  · obtain ⟨c, hb⟩ : ∃ c, l[i]? = some c := ⟨l[i], List.getElem?_eq_getElem hil⟩
    have hd : l.drop i = c :: l.drop (i + 1) := by
      obtain ⟨hi, e⟩ := List.getElem?_eq_some_iff.1 hb
      rw [List.drop_eq_getElem_cons hi, e]
    rw [hd] at h2
    by_cases h37 : c = 37
    · subst h37
      by_cases hs : l.length - i < 3
      · rw [itB_short (by simp; omega)] at h2
        have h2 : none = itB l := h2
        rw [← h2]
        repeat' (first | with_reducible refine And.intro ?_ ?_ | ((with_reducible intro hc); (try simp only [zA, zB, zC, zD, zE, zF, zG, zH, zI, zJ, zK, zL, zM, zN, zO, zP, zQ, zR, zS, zT, zU, zV, zW] at hc); (first | (exact absurd rfl hc) | (exact absurd trivial hc) | (exfalso; omega) | skip)) | exact Is.mk rfl rfl | ((conv => whnf); first | with_reducible refine And.intro ?_ ?_ | with_reducible intro hx | exact Is.mk rfl rfl | (with_reducible first | apply Val.via | apply ValH.via) | refine ifB_intro ?_ ?_ | refine xA (by omega) ?_ | ((refine xB ?_); intro kw hk1 hk2) | refine xC (by omega) ?_ | refine xD ?_ | refine xE (by omega) ?_ | refine xF (by omega) ?_ | refine xG ?_ | refine xH ?_ | refine xI (by omega) ?_ | refine xJ (by omega) ?_ | (with_reducible refine stopA ?_) | refine Exists.intro _ (And.intro (by (first | exact hb | exact vat_of rfl rfl rfl | rfl)) ?_) | refine GOp.drawn (by rfl) (by rfl) (Nat.le_of_ble_eq_true (by rfl)) (by rfl) | refine GOp.via (by rfl) ?_ | refine GWP.drawY mixed _ (by kernel_rfl) (by rfl) ?_ | fail | (with_reducible first | refine stopO ?_ | refine stopE ?_ | refine stopD ?_ | refine stopW ?_ | refine stopG ?_ | refine stopC ?_ | refine stopR ?_)))
        all_goals (first | omega | skip)
        exact Done'.mk (Frz.tp (.cons Frz.nil0 (.cons (Frz.of (nameless_sc _)) .nil)))
      · obtain ⟨a, ha⟩ : ∃ a, l[i + 1]? = some a := ⟨l[i + 1], List.getElem?_eq_getElem (by omega)⟩
        obtain ⟨b, hbb⟩ : ∃ a, l[i + 2]? = some a := ⟨l[i + 2], List.getElem?_eq_getElem (by omega)⟩
        have hd1 : l.drop (i + 1) = a :: b :: l.drop (i + 3) := by
          obtain ⟨hi, e⟩ := List.getElem?_eq_some_iff.1 ha
          obtain ⟨hi2, e2⟩ := List.getElem?_eq_some_iff.1 hbb
          rw [List.drop_eq_getElem_cons hi, e, List.drop_eq_getElem_cons hi2, e2]
        rw [hd1, itB_hex] at h2
        have hx2 : (⟨l.toArray⟩ : ByteArray).extract ((i : Int) + 1).toNat ((i : Int) + 3).toNat = ⟨[a, b].toArray⟩ := by
          rw [show ((i : Int) + 1).toNat = i + 1 by omega, show ((i : Int) + 3).toNat = i + 3 by omega, ext_str, hd1, show i + 3 - (i + 1) = 2 by omega]
          rfl
        have k1 : ∀ H, VCall Tryd.prog 161 [VV.sc (.string ((⟨l.toArray⟩ : ByteArray).extract ((i : Int) + 1).toNat ((i : Int) + 3).toNat))] H (fun x K => x = iV (hex2I a b) ∧ K = H) := fun H => by
          rw [hx2]
          exact value3_call a b H
        clear hx2
        unfold hex2I at k1
        by_cases hh : hexN a < 16 ∧ hexN b < 16
        · rw [if_pos hh] at h2
          rw [if_pos hh] at k1
          have hn : hexN a * 16 + hexN b < 256 := by omega
          generalize hexN a * 16 + hexN b = n at *
          clear hh
          repeat' (first | with_reducible refine And.intro ?_ ?_ | ((with_reducible intro hc); (try simp only [zA, zB, zC, zD, zE, zF, zG, zH, zI, zJ, zK, zL, zM, zN, zO, zP, zQ, zR, zS, zT, zU, zV, zW] at hc); (first | (exact absurd rfl hc) | (exact absurd trivial hc) | (exfalso; omega) | skip)) | exact Is.mk rfl rfl | ((conv => whnf); first | with_reducible refine And.intro ?_ ?_ | with_reducible intro hx | exact Is.mk rfl rfl | (with_reducible first | apply Val.via | apply ValH.via) | refine ifB_intro ?_ ?_ | refine xA (by omega) ?_ | ((refine xB ?_); intro kw hk1 hk2) | refine xC (by omega) ?_ | refine xD ?_ | refine xE (by omega) ?_ | refine xF (by omega) ?_ | refine xG ?_ | refine xH ?_ | refine xI (by omega) ?_ | refine xJ (by omega) ?_ | (with_reducible refine stopA ?_) | refine Exists.intro _ (And.intro (by (first | exact hb | exact vat_of rfl rfl rfl | rfl)) ?_) | refine GOp.drawn (by rfl) (by rfl) (Nat.le_of_ble_eq_true (by rfl)) (by rfl) | refine GOp.via (by rfl) ?_ | refine GWP.drawY mixed _ (by kernel_rfl) (by rfl) ?_ | (first | (refine GCall.mk ((k1 _).mono ?_); rintro _ _ ⟨rfl, rfl⟩) | (refine stopO (GOp'.grow rfl sty_I2 (d := .slice 167) Tryd.underlying163 (by intro k h; cases h) rfl (m := 1) (l := [.sc (.int .u8 (n : Int)), booV true]) (by rfl) (by rfl) rfl hrl (by omega) (by omega) ?_))) | (with_reducible first | refine stopO ?_ | refine stopE ?_ | refine stopD ?_ | refine stopW ?_ | refine stopG ?_ | refine stopC ?_ | refine stopR ?_)))
          all_goals (first | omega | skip)
          focus (refine Done'.mk ⟨(done ++ [(UInt8.ofNat n, true)], i + 3), ⟨by simp only; omega, by simp only; rw [← h2]; simp only [Option.map_map]; congr 1; funext x; simp, by simp only [List.length_append, List.length_cons, List.length_nil]; omega⟩, ?_, KeptA.of [(3, 1)] rfl rfl (by repeat' (first | exact trivial | refine And.intro rfl ?_)) rfl ?_ ?_⟩; (first | omega | (simp only; omega)); all_goals (repeat' (first | exact trivial | (refine And.intro ?_ ?_) | (refine Exists.intro _ (And.intro rfl ?_)) | (refine RenO.opt ?_) | (refine RenO.toOpt ?_) | (refine RenO.cells ?_) | exact RenO.defs | exact RenL.nil | (refine RenL.cons ?_ ?_) | (first | (first | exact RenL.eq (by rw [rowsI_snoc]; congr 2; show _ = bV (UInt8.ofNat n); unfold bV; rw [show (UInt8.ofNat n).toNat = n by simp; omega]) (rowsI_nameless _) | exact RenV.eq (scI_eq (by omega)) (nameless_sc _)) | (with_reducible exact RenV.sc) | exact RenV.gsN | exact RenV.gsZ | exact RenV.gsL (by decide) | exact RenV.slL (by decide) | ((first | refine RenV.gsE (by (first | exact List.Mem.head _ | exact List.Mem.tail _ (List.Mem.head _) | exact List.Mem.tail _ (List.Mem.tail _ (List.Mem.head _)) | (simp; done))) ?_ | refine RenV.eq (scI_eq ?_) (nameless_sc _)); (first | rfl | omega | (simp only [List.length_append, List.length_cons, List.length_nil, List.length_map, List.length_take, List.length_drop] <;> omega) | (simp only <;> omega) | (simp <;> omega))) | exact RenV.undef) | (with_unfolding_all exact (rfl : (_ : VObj) = _)))))
        · rw [if_neg hh] at h2
          rw [if_neg hh] at k1
          have h2 : none = itB l := h2
          rw [← h2]
          repeat' (first | with_reducible refine And.intro ?_ ?_ | ((with_reducible intro hc); (try simp only [zA, zB, zC, zD, zE, zF, zG, zH, zI, zJ, zK, zL, zM, zN, zO, zP, zQ, zR, zS, zT, zU, zV, zW] at hc); (first | (exact absurd rfl hc) | (exact absurd trivial hc) | (exfalso; omega) | skip)) | exact Is.mk rfl rfl | ((conv => whnf); first | with_reducible refine And.intro ?_ ?_ | with_reducible intro hx | exact Is.mk rfl rfl | (with_reducible first | apply Val.via | apply ValH.via) | refine ifB_intro ?_ ?_ | refine xA (by omega) ?_ | ((refine xB ?_); intro kw hk1 hk2) | refine xC (by omega) ?_ | refine xD ?_ | refine xE (by omega) ?_ | refine xF (by omega) ?_ | refine xG ?_ | refine xH ?_ | refine xI (by omega) ?_ | refine xJ (by omega) ?_ | (with_reducible refine stopA ?_) | refine Exists.intro _ (And.intro (by (first | exact hb | exact vat_of rfl rfl rfl | rfl)) ?_) | refine GOp.drawn (by rfl) (by rfl) (Nat.le_of_ble_eq_true (by rfl)) (by rfl) | refine GOp.via (by rfl) ?_ | refine GWP.drawY mixed _ (by kernel_rfl) (by rfl) ?_ | (refine GCall.mk ((k1 _).mono ?_); rintro _ _ ⟨rfl, rfl⟩) | (with_reducible first | refine stopO ?_ | refine stopE ?_ | refine stopD ?_ | refine stopW ?_ | refine stopG ?_ | refine stopC ?_ | refine stopR ?_)))
          all_goals (first | omega | skip)
          exact Done'.mk (Frz.tp (.cons Frz.nil0 (.cons (Frz.of (nameless_sc _)) .nil)))
    · rw [itB_plain h37] at h2
      have hcn : c.toNat ≠ 37 := fun e => h37 (UInt8.toNat_inj.1 e)
      repeat' (first | with_reducible refine And.intro ?_ ?_ | ((with_reducible intro hc); (try simp only [zA, zB, zC, zD, zE, zF, zG, zH, zI, zJ, zK, zL, zM, zN, zO, zP, zQ, zR, zS, zT, zU, zV, zW] at hc); (first | (exact absurd rfl hc) | (exact absurd trivial hc) | (exfalso; omega) | skip)) | exact Is.mk rfl rfl | ((conv => whnf); first | with_reducible refine And.intro ?_ ?_ | with_reducible intro hx | exact Is.mk rfl rfl | (with_reducible first | apply Val.via | apply ValH.via) | refine ifB_intro ?_ ?_ | refine xA (by omega) ?_ | ((refine xB ?_); intro kw hk1 hk2) | refine xC (by omega) ?_ | refine xD ?_ | refine xE (by omega) ?_ | refine xF (by omega) ?_ | refine xG ?_ | refine xH ?_ | refine xI (by omega) ?_ | refine xJ (by omega) ?_ | (with_reducible refine stopA ?_) | refine Exists.intro _ (And.intro (by (first | exact hb | exact vat_of rfl rfl rfl | rfl)) ?_) | refine GOp.drawn (by rfl) (by rfl) (Nat.le_of_ble_eq_true (by rfl)) (by rfl) | refine GOp.via (by rfl) ?_ | refine GWP.drawY mixed _ (by kernel_rfl) (by rfl) ?_ | (refine stopO (GOp'.grow rfl sty_I2 (d := .slice 167) Tryd.underlying163 (by intro k h; cases h) rfl (m := 1) (l := [bV c, booV false]) (by rfl) (by rfl) rfl hrl (by omega) (by omega) ?_)) | (with_reducible first | refine stopO ?_ | refine stopE ?_ | refine stopD ?_ | refine stopW ?_ | refine stopG ?_ | refine stopC ?_ | refine stopR ?_)))
      all_goals (first | omega | skip)
      focus (refine Done'.mk ⟨(done ++ [(c, false)], i + 1), ⟨by simp only; omega, by simp only; rw [← h2]; simp only [Option.map_map]; congr 1; funext x; simp, by simp only [List.length_append, List.length_cons, List.length_nil]; omega⟩, ?_, KeptA.of [(3, 1)] rfl rfl (by repeat' (first | exact trivial | refine And.intro rfl ?_)) rfl ?_ ?_⟩; (first | omega | (simp only; omega)); all_goals (repeat' (first | exact trivial | (refine And.intro ?_ ?_) | (refine Exists.intro _ (And.intro rfl ?_)) | (refine RenO.opt ?_) | (refine RenO.toOpt ?_) | (refine RenO.cells ?_) | exact RenO.defs | exact RenL.nil | (refine RenL.cons ?_ ?_) | (first | (first | exact RenL.eq (rowsI_snoc done (c, false)).symm (rowsI_nameless _) | exact RenV.eq (scI_eq (by omega)) (nameless_sc _)) | (with_reducible exact RenV.sc) | exact RenV.gsN | exact RenV.gsZ | exact RenV.gsL (by decide) | exact RenV.slL (by decide) | ((first | refine RenV.gsE (by (first | exact List.Mem.head _ | exact List.Mem.tail _ (List.Mem.head _) | exact List.Mem.tail _ (List.Mem.tail _ (List.Mem.head _)) | (simp; done))) ?_ | refine RenV.eq (scI_eq ?_) (nameless_sc _)); (first | rfl | omega | (simp only [List.length_append, List.length_cons, List.length_nil, List.length_map, List.length_take, List.length_drop] <;> omega) | (simp only <;> omega) | (simp <;> omega))) | exact RenV.undef) | (with_unfolding_all exact (rfl : (_ : VObj) = _)))))
  · obtain rfl : i = l.length := by omega
    rw [List.drop_length] at h2
    have h2 : some (done ++ []) = itB l := h2
    rw [List.append_nil] at h2
    rw [← h2]
    repeat' (first | with_reducible refine And.intro ?_ ?_ | ((with_reducible intro hc); (try simp only [zA, zB, zC, zD, zE, zF, zG, zH, zI, zJ, zK, zL, zM, zN, zO, zP, zQ, zR, zS, zT, zU, zV, zW] at hc); (first | (exact absurd rfl hc) | (exact absurd trivial hc) | (exfalso; omega) | skip)) | exact Is.mk rfl rfl | ((conv => whnf); first | with_reducible refine And.intro ?_ ?_ | with_reducible intro hx | exact Is.mk rfl rfl | (with_reducible first | apply Val.via | apply ValH.via) | refine ifB_intro ?_ ?_ | refine xA (by omega) ?_ | ((refine xB ?_); intro kw hk1 hk2) | refine xC (by omega) ?_ | refine xD ?_ | refine xE (by omega) ?_ | refine xF (by omega) ?_ | refine xG ?_ | refine xH ?_ | refine xI (by omega) ?_ | refine xJ (by omega) ?_ | (with_reducible refine stopA ?_) | refine Exists.intro _ (And.intro (by rfl) ?_) | refine GOp.drawn (by rfl) (by rfl) (Nat.le_of_ble_eq_true (by rfl)) (by rfl) | refine GOp.via (by rfl) ?_ | refine GWP.drawY mixed _ (by kernel_rfl) (by rfl) ?_ | fail | (with_reducible first | refine stopO ?_ | refine stopE ?_ | refine stopD ?_ | refine stopW ?_ | refine stopG ?_ | refine stopC ?_ | refine stopR ?_)))
    exact Done'.mk (Frz.tp (.cons (Frz.gs rfl (rowsI_len done) (rowsI_nameless done)) (.cons (Frz.of (nameless_sc _)) .nil)))
end Go.Proofs.YtmmjgbdihgdekaaDoor

/- The document's plain and Parse, walked. -/
namespace Go.Proofs.YtmmjgbdihgdekaaDoor
open Go Go.RowKit
set_option linter.unusedSimpArgs false
set_option linter.unusedVariables false
set_option maxRecDepth 100000
set_option maxHeartbeats 16000000
theorem vat_rowsI {l : List (UInt8 × Bool)} {i o : Nat} {f : UInt8 × Bool} (h : l[i]? = some f) (ho : o = i * 2) : vat Tryd.prog 167 (rowsI l) o = some (.ag [bV f.1, booV f.2]) := by
  subst ho
  have key : ∀ (l : List (UInt8 × Bool)) (i : Nat) (f : UInt8 × Bool), l[i]? = some f → ((rowsI l).drop (i * 2)).take 2 = [bV f.1, booV f.2] ∧ i * 2 + 2 ≤ (rowsI l).length := by
    intro l
    induction l with
    | nil => intro i f h; simp at h
    | cons x l ih =>
      intro i f h
      cases i with
      | zero =>
        simp at h
        subst h
        refine ⟨rfl, ?_⟩
        rw [rowsI_len]
        simp only [List.length_cons]
        omega
      | succ i =>
        have := ih i f (by simpa using h)
        rw [show (i + 1) * 2 = (i * 2) + 1 + 1 by omega]
        refine ⟨this.1, ?_⟩
        rw [rowsI_len] at this ⊢
        simp only [List.length_cons]
        omega
  obtain ⟨h1, h2⟩ := key l i f h
  have h0 : vagg Tryd.prog 167 = some true := by kernel_rfl
  have hz : vsize Tryd.prog 167 = some 2 := by kernel_rfl
  have h3 : Nat.ble (i * 2 + 2) (rowsI l).length = true := Nat.ble_eq_true_of_le h2
  simp only [vat, h0, hz, h3]
  exact congrArg (fun x => some (VV.ag x)) h1
theorem itB_len : ∀ (n : Nat) (l : List UInt8), l.length ≤ n → ∀ x, itB l = some x → x.length ≤ l.length
  | _, [], _, x, h => by
    have h : some [] = some x := h
    injection h with h
    subst h
    simp
  | 0, c :: r, hn, x, h => by simp at hn
  | n + 1, c :: r, hn, x, h => by
    simp only [List.length_cons] at hn
    by_cases h37 : c = 37
    · subst h37
      match r, hn, h with
      | [], _, h => rw [itB_short (by simp)] at h; cases h
      | [d], _, h => rw [itB_short (by simp)] at h; cases h
      | a :: b :: r, hn, h =>
        rw [itB_hex] at h
        simp only [List.length_cons] at hn
        split at h
        · cases hr : itB r with
          | none => rw [hr] at h; cases h
          | some y =>
            rw [hr] at h
            injection h with h
            subst h
            have := itB_len n r (by omega) y hr
            simp only [List.length_cons]
            omega
        · cases h
    · rw [itB_plain h37] at h
      cases hr : itB r with
      | none => rw [hr] at h; cases h
      | some y =>
        rw [hr] at h
        injection h with h
        subst h
        have := itB_len n r (by omega) y hr
        simp only [List.length_cons]
        omega
def ptV : Option (List UInt8) → VV
  | none => .tp [strV [], booV false]
  | some x => .tp [strV x, booV true]
theorem nameless_ptV (o : Option (List UInt8)) : Nameless (ptV o) := by
  cases o with
  | none => exact nameless_tp (by simp [nameless_strV, nameless_sc, booV])
  | some l => exact nameless_tp (by simp [nameless_strV, nameless_sc, booV])
theorem plain32_call (l : List UInt8) (hl : l.length ≤ 100000) (H : Heap) : VCall Tryd.prog 85 [strV l] H (fun v K => v = ptV (plainB l) ∧ K = H) := by
  refine VCall.pure (by simp [nameless_strV]) (nameless_ptV _) ?_
  refine VCall.go Tryd.func85 rfl ?_
  have k1 := fun H => items3_call l hl H
  have hpi := plain_items l
  cases hit : itB l with
  | none =>
    rw [hit] at k1 hpi
    have hpi : none = plainB l := hpi
    rw [← hpi]
    unfold itV at k1
    repeat' (first | with_reducible refine And.intro ?_ ?_ | ((with_reducible intro hc); (try simp only [zA, zB, zC, zD, zE, zF, zG, zH, zI, zJ, zK, zL, zM, zN, zO, zP, zQ, zR, zS, zT, zU, zV, zW] at hc); (first | (exact absurd rfl hc) | (exact absurd trivial hc) | (exfalso; omega) | skip)) | exact Is.mk rfl rfl | ((conv => whnf); first | with_reducible refine And.intro ?_ ?_ | with_reducible intro hx | exact Is.mk rfl rfl | (with_reducible first | apply Val.via | apply ValH.via) | refine ifB_intro ?_ ?_ | refine xA (by omega) ?_ | ((refine xB ?_); intro kw hk1 hk2) | refine xC (by omega) ?_ | refine xD ?_ | refine xE (by omega) ?_ | refine xF (by omega) ?_ | refine xG ?_ | refine xH ?_ | refine xI (by omega) ?_ | refine xJ (by omega) ?_ | (with_reducible refine stopA ?_) | refine Exists.intro _ (And.intro (by (first | exact vat_of rfl rfl rfl | rfl)) ?_) | refine GOp.drawn (by rfl) (by rfl) (Nat.le_of_ble_eq_true (by rfl)) (by rfl) | refine GOp.via (by rfl) ?_ | refine GWP.drawY mixed _ (by kernel_rfl) (by rfl) ?_ | (refine GCall.mk ((k1 _).mono ?_); rintro _ _ ⟨rfl, rfl⟩) | (with_reducible first | refine stopO ?_ | refine stopE ?_ | refine stopD ?_ | refine stopW ?_ | refine stopG ?_ | refine stopC ?_ | refine stopR ?_)))
    (refine GWP'.mk (GWP.loopB [0] (fun (i : Nat) => i = 0) (fun i => [(17, iV 0), (6, .gs 1 0 1)]) (fun i => [(1, .opt [])]) 2 (fun i => 0) 0 rfl ?_); (conv => whnf); refine And.intro ?_ ?_)
    · focus (refine KeptA.of [] rfl rfl (by repeat' (first | exact trivial | refine And.intro rfl ?_)) rfl ?_ ?_; all_goals (repeat' (first | exact trivial | (refine And.intro ?_ ?_) | (refine Exists.intro _ (And.intro rfl ?_)) | (refine RenO.opt ?_) | (refine RenO.toOpt ?_) | (refine RenO.cells ?_) | exact RenO.defs | exact RenL.nil | (refine RenL.cons ?_ ?_) | (first | exact RenV.gsZ | (with_reducible exact RenV.sc) | exact RenV.gsN | exact RenV.gsZ | exact RenV.gsL (by decide) | exact RenV.slL (by decide) | ((first | refine RenV.gsE (by (first | exact List.Mem.head _ | exact List.Mem.tail _ (List.Mem.head _) | exact List.Mem.tail _ (List.Mem.tail _ (List.Mem.head _)) | (simp; done))) ?_ | refine RenV.eq (scI_eq ?_) (nameless_sc _)); (first | rfl | omega | (simp only [List.length_append, List.length_cons, List.length_nil, List.length_map, List.length_take, List.length_drop] <;> omega) | (simp only <;> omega) | (simp <;> omega))) | exact RenV.undef) | (with_unfolding_all exact (rfl : (_ : VObj) = _)))))
    rintro i rfl
    repeat' (first | with_reducible refine And.intro ?_ ?_ | ((with_reducible intro hc); (try simp only [zA, zB, zC, zD, zE, zF, zG, zH, zI, zJ, zK, zL, zM, zN, zO, zP, zQ, zR, zS, zT, zU, zV, zW] at hc); (first | (exact absurd rfl hc) | (exact absurd trivial hc) | (exfalso; omega) | skip)) | exact Is.mk rfl rfl | ((conv => whnf); first | with_reducible refine And.intro ?_ ?_ | with_reducible intro hx | exact Is.mk rfl rfl | (with_reducible first | apply Val.via | apply ValH.via) | refine ifB_intro ?_ ?_ | refine xA (by omega) ?_ | ((refine xB ?_); intro kw hk1 hk2) | refine xC (by omega) ?_ | refine xD ?_ | refine xE (by omega) ?_ | refine xF (by omega) ?_ | refine xG ?_ | refine xH ?_ | refine xI (by omega) ?_ | refine xJ (by omega) ?_ | (with_reducible refine stopA ?_) | refine Exists.intro _ (And.intro (by (first | exact vat_of rfl rfl rfl | exact vbytes_map [] | rfl)) ?_) | refine GOp.drawn (by rfl) (by rfl) (Nat.le_of_ble_eq_true (by rfl)) (by rfl) | refine GOp.via (by rfl) ?_ | refine GWP.drawY mixed _ (by kernel_rfl) (by rfl) ?_ | fail | (with_reducible first | refine stopO ?_ | refine stopE ?_ | refine stopD ?_ | refine stopW ?_ | refine stopG ?_ | refine stopC ?_ | refine stopR ?_)))
    all_goals (first | exact Done'.mk rfl | rfl)
  | some its =>
    rw [hit] at k1 hpi
    have hpi : some (its.map fixI) = plainB l := hpi
    have hlen := itB_len l.length l (Nat.le_refl _) its hit
    rw [← hpi]
    unfold itV at k1
    clear hpi hit
    repeat' (first | with_reducible refine And.intro ?_ ?_ | ((with_reducible intro hc); (try simp only [zA, zB, zC, zD, zE, zF, zG, zH, zI, zJ, zK, zL, zM, zN, zO, zP, zQ, zR, zS, zT, zU, zV, zW] at hc); (first | (exact absurd rfl hc) | (exact absurd trivial hc) | (exfalso; omega) | skip)) | exact Is.mk rfl rfl | ((conv => whnf); first | with_reducible refine And.intro ?_ ?_ | with_reducible intro hx | exact Is.mk rfl rfl | (with_reducible first | apply Val.via | apply ValH.via) | refine ifB_intro ?_ ?_ | refine xA (by omega) ?_ | ((refine xB ?_); intro kw hk1 hk2) | refine xC (by omega) ?_ | refine xD ?_ | refine xE (by omega) ?_ | refine xF (by omega) ?_ | refine xG ?_ | refine xH ?_ | refine xI (by omega) ?_ | refine xJ (by omega) ?_ | (with_reducible refine stopA ?_) | refine Exists.intro _ (And.intro (by (first | exact vat_of rfl rfl rfl | rfl)) ?_) | refine GOp.drawn (by rfl) (by rfl) (Nat.le_of_ble_eq_true (by rfl)) (by rfl) | refine GOp.via (by rfl) ?_ | refine GWP.drawY mixed _ (by kernel_rfl) (by rfl) ?_ | (refine GCall.mk ((k1 _).mono ?_); rintro _ _ ⟨rfl, rfl⟩) | (with_reducible first | refine stopO ?_ | refine stopE ?_ | refine stopD ?_ | refine stopW ?_ | refine stopG ?_ | refine stopC ?_ | refine stopR ?_)))
    (refine GWP'.mk (GWP.loopB [0] (fun (s : List UInt8 × Nat) => s.2 ≤ its.length ∧ s.1 = (its.take s.2).map fixI) (fun s => [(17, iV s.2), (6, .gs 1 s.1.length 1)]) (fun s => [(1, .opt (s.1.map bV))]) 2 (fun s => its.length - s.2) ([], 0) ⟨Nat.zero_le _, rfl⟩ ?_); (conv => whnf); refine And.intro ?_ ?_)
    · focus (refine KeptA.of [] rfl rfl (by repeat' (first | exact trivial | refine And.intro rfl ?_)) rfl ?_ ?_; all_goals (repeat' (first | exact trivial | (refine And.intro ?_ ?_) | (refine Exists.intro _ (And.intro rfl ?_)) | (refine RenO.opt ?_) | (refine RenO.toOpt ?_) | (refine RenO.cells ?_) | exact RenO.defs | exact RenL.nil | (refine RenL.cons ?_ ?_) | (first | exact RenV.gsZ | (with_reducible exact RenV.sc) | exact RenV.gsN | exact RenV.gsZ | exact RenV.gsL (by decide) | exact RenV.slL (by decide) | ((first | refine RenV.gsE (by (first | exact List.Mem.head _ | exact List.Mem.tail _ (List.Mem.head _) | exact List.Mem.tail _ (List.Mem.tail _ (List.Mem.head _)) | (simp; done))) ?_ | refine RenV.eq (scI_eq ?_) (nameless_sc _)); (first | rfl | omega | (simp only [List.length_append, List.length_cons, List.length_nil, List.length_map, List.length_take, List.length_drop] <;> omega) | (simp only <;> omega) | (simp <;> omega))) | exact RenV.undef) | (with_unfolding_all exact (rfl : (_ : VObj) = _)))))
    rintro ⟨done, i⟩ ⟨h1, h2⟩
    simp only at h1 h2 ⊢
    by_cases hil : i < its.length
    · obtain ⟨f, hfi⟩ : ∃ f, its[i]? = some f := ⟨its[i], List.getElem?_eq_getElem hil⟩
      have hnx : done ++ [fixI f] = (its.take (i + 1)).map fixI := by
        obtain ⟨hi, e⟩ := List.getElem?_eq_some_iff.1 hfi
        rw [List.take_succ_eq_append_getElem hi, e, h2, List.map_append]
        rfl
      have hdn : done.length = i := by rw [h2, List.length_map, List.length_take]; omega
      obtain ⟨c, cd⟩ := f
      by_cases hc43 : c = 43
      · subst hc43
        cases cd with
        | true =>
          repeat' (first | with_reducible refine And.intro ?_ ?_ | ((with_reducible intro hc); (try simp only [zA, zB, zC, zD, zE, zF, zG, zH, zI, zJ, zK, zL, zM, zN, zO, zP, zQ, zR, zS, zT, zU, zV, zW] at hc); (first | (exact absurd rfl hc) | (exact absurd trivial hc) | (exfalso; omega) | skip)) | exact Is.mk rfl rfl | ((conv => whnf); first | with_reducible refine And.intro ?_ ?_ | with_reducible intro hx | exact Is.mk rfl rfl | (with_reducible first | apply Val.via | apply ValH.via) | refine ifB_intro ?_ ?_ | refine xA (by omega) ?_ | ((refine xB ?_); intro kw hk1 hk2) | refine xC (by omega) ?_ | refine xD ?_ | refine xE (by omega) ?_ | refine xF (by omega) ?_ | refine xG ?_ | refine xH ?_ | refine xI (by omega) ?_ | refine xJ (by omega) ?_ | (with_reducible refine stopA ?_) | refine Exists.intro _ (And.intro (by (first | exact vat_rowsI hfi rfl | exact vat_of rfl rfl rfl | rfl)) ?_) | refine GOp.drawn (by rfl) (by rfl) (Nat.le_of_ble_eq_true (by rfl)) (by rfl) | refine GOp.via (by rfl) ?_ | refine GWP.drawY mixed _ (by kernel_rfl) (by rfl) ?_ | (refine stopO (GOp'.grow rfl sty_b (d := .slice 5) Tryd.underlying22 (by intro k h; cases h) rfl (m := 1) (l := [bV 43]) (by rfl) (by rfl) rfl (by simp) (by omega) (by omega) ?_)) | (with_reducible first | refine stopO ?_ | refine stopE ?_ | refine stopD ?_ | refine stopW ?_ | refine stopG ?_ | refine stopC ?_ | refine stopR ?_)))
          all_goals (first | omega | skip)
          focus (refine Done'.mk ⟨(done ++ [43], i + 1), ⟨by simp only; omega, hnx⟩, ?_, KeptA.of [(4, 1)] rfl rfl (by repeat' (first | exact trivial | refine And.intro rfl ?_)) rfl ?_ ?_⟩; (first | omega | (simp only; omega)); all_goals (repeat' (first | exact trivial | (refine And.intro ?_ ?_) | (refine Exists.intro _ (And.intro rfl ?_)) | (refine RenO.opt ?_) | (refine RenO.toOpt ?_) | (refine RenO.cells ?_) | exact RenO.defs | exact RenL.nil | (refine RenL.cons ?_ ?_) | (first | (first | exact RenL.eq (by simp) (nameless_map nameless_bV _) | exact RenV.eq (scI_eq (by omega)) (nameless_sc _)) | (with_reducible exact RenV.sc) | exact RenV.gsN | exact RenV.gsZ | exact RenV.gsL (by decide) | exact RenV.slL (by decide) | ((first | refine RenV.gsE (by (first | exact List.Mem.head _ | exact List.Mem.tail _ (List.Mem.head _) | exact List.Mem.tail _ (List.Mem.tail _ (List.Mem.head _)) | (simp; done))) ?_ | refine RenV.eq (scI_eq ?_) (nameless_sc _)); (first | rfl | omega | (simp only [List.length_append, List.length_cons, List.length_nil, List.length_map, List.length_take, List.length_drop] <;> omega) | (simp only <;> omega) | (simp <;> omega))) | exact RenV.undef) | (with_unfolding_all exact (rfl : (_ : VObj) = _)))))
        | false =>
          repeat' (first | with_reducible refine And.intro ?_ ?_ | ((with_reducible intro hc); (try simp only [zA, zB, zC, zD, zE, zF, zG, zH, zI, zJ, zK, zL, zM, zN, zO, zP, zQ, zR, zS, zT, zU, zV, zW] at hc); (first | (exact absurd rfl hc) | (exact absurd trivial hc) | (exfalso; omega) | skip)) | exact Is.mk rfl rfl | ((conv => whnf); first | with_reducible refine And.intro ?_ ?_ | with_reducible intro hx | exact Is.mk rfl rfl | (with_reducible first | apply Val.via | apply ValH.via) | refine ifB_intro ?_ ?_ | refine xA (by omega) ?_ | ((refine xB ?_); intro kw hk1 hk2) | refine xC (by omega) ?_ | refine xD ?_ | refine xE (by omega) ?_ | refine xF (by omega) ?_ | refine xG ?_ | refine xH ?_ | refine xI (by omega) ?_ | refine xJ (by omega) ?_ | (with_reducible refine stopA ?_) | refine Exists.intro _ (And.intro (by (first | exact vat_rowsI hfi rfl | exact vat_of rfl rfl rfl | rfl)) ?_) | refine GOp.drawn (by rfl) (by rfl) (Nat.le_of_ble_eq_true (by rfl)) (by rfl) | refine GOp.via (by rfl) ?_ | refine GWP.drawY mixed _ (by kernel_rfl) (by rfl) ?_ | (refine stopO (GOp'.grow rfl sty_b (d := .slice 5) Tryd.underlying22 (by intro k h; cases h) rfl (m := 1) (l := [bV 32]) (by rfl) (by rfl) rfl (by simp) (by omega) (by omega) ?_)) | (with_reducible first | refine stopO ?_ | refine stopE ?_ | refine stopD ?_ | refine stopW ?_ | refine stopG ?_ | refine stopC ?_ | refine stopR ?_)))
          all_goals (first | omega | skip)
          focus (refine Done'.mk ⟨(done ++ [32], i + 1), ⟨by simp only; omega, hnx⟩, ?_, KeptA.of [(4, 1)] rfl rfl (by repeat' (first | exact trivial | refine And.intro rfl ?_)) rfl ?_ ?_⟩; (first | omega | (simp only; omega)); all_goals (repeat' (first | exact trivial | (refine And.intro ?_ ?_) | (refine Exists.intro _ (And.intro rfl ?_)) | (refine RenO.opt ?_) | (refine RenO.toOpt ?_) | (refine RenO.cells ?_) | exact RenO.defs | exact RenL.nil | (refine RenL.cons ?_ ?_) | (first | (first | exact RenL.eq (by simp) (nameless_map nameless_bV _) | exact RenV.eq (scI_eq (by omega)) (nameless_sc _)) | (with_reducible exact RenV.sc) | exact RenV.gsN | exact RenV.gsZ | exact RenV.gsL (by decide) | exact RenV.slL (by decide) | ((first | refine RenV.gsE (by (first | exact List.Mem.head _ | exact List.Mem.tail _ (List.Mem.head _) | exact List.Mem.tail _ (List.Mem.tail _ (List.Mem.head _)) | (simp; done))) ?_ | refine RenV.eq (scI_eq ?_) (nameless_sc _)); (first | rfl | omega | (simp only [List.length_append, List.length_cons, List.length_nil, List.length_map, List.length_take, List.length_drop] <;> omega) | (simp only <;> omega) | (simp <;> omega))) | exact RenV.undef) | (with_unfolding_all exact (rfl : (_ : VObj) = _)))))
      · have hcn : c.toNat ≠ 43 := fun e => hc43 (UInt8.toNat_inj.1 e)
        have hf : fixI (c, cd) = c := by unfold fixI; rw [if_neg (fun e => hc43 e.1)]
        rw [hf] at hnx
        repeat' (first | with_reducible refine And.intro ?_ ?_ | ((with_reducible intro hc); (try simp only [zA, zB, zC, zD, zE, zF, zG, zH, zI, zJ, zK, zL, zM, zN, zO, zP, zQ, zR, zS, zT, zU, zV, zW] at hc); (first | (exact absurd rfl hc) | (exact absurd trivial hc) | (exfalso; omega) | skip)) | exact Is.mk rfl rfl | ((conv => whnf); first | with_reducible refine And.intro ?_ ?_ | with_reducible intro hx | exact Is.mk rfl rfl | (with_reducible first | apply Val.via | apply ValH.via) | refine ifB_intro ?_ ?_ | refine xA (by omega) ?_ | ((refine xB ?_); intro kw hk1 hk2) | refine xC (by omega) ?_ | refine xD ?_ | refine xE (by omega) ?_ | refine xF (by omega) ?_ | refine xG ?_ | refine xH ?_ | refine xI (by omega) ?_ | refine xJ (by omega) ?_ | (with_reducible refine stopA ?_) | refine Exists.intro _ (And.intro (by (first | exact vat_rowsI hfi rfl | exact vat_of rfl rfl rfl | rfl)) ?_) | refine GOp.drawn (by rfl) (by rfl) (Nat.le_of_ble_eq_true (by rfl)) (by rfl) | refine GOp.via (by rfl) ?_ | refine GWP.drawY mixed _ (by kernel_rfl) (by rfl) ?_ | (refine stopO (GOp'.grow rfl sty_b (d := .slice 5) Tryd.underlying22 (by intro k h; cases h) rfl (m := 1) (l := [bV c]) (by rfl) (by rfl) rfl (by simp) (by omega) (by omega) ?_)) | (with_reducible first | refine stopO ?_ | refine stopE ?_ | refine stopD ?_ | refine stopW ?_ | refine stopG ?_ | refine stopC ?_ | refine stopR ?_)))
        all_goals (first | omega | skip)
        focus (refine Done'.mk ⟨(done ++ [c], i + 1), ⟨by simp only; omega, hnx⟩, ?_, KeptA.of [(4, 1)] rfl rfl (by repeat' (first | exact trivial | refine And.intro rfl ?_)) rfl ?_ ?_⟩; (first | omega | (simp only; omega)); all_goals (repeat' (first | exact trivial | (refine And.intro ?_ ?_) | (refine Exists.intro _ (And.intro rfl ?_)) | (refine RenO.opt ?_) | (refine RenO.toOpt ?_) | (refine RenO.cells ?_) | exact RenO.defs | exact RenL.nil | (refine RenL.cons ?_ ?_) | (first | (first | exact RenL.eq (by simp) (nameless_map nameless_bV _) | exact RenV.eq (scI_eq (by omega)) (nameless_sc _)) | (with_reducible exact RenV.sc) | exact RenV.gsN | exact RenV.gsZ | exact RenV.gsL (by decide) | exact RenV.slL (by decide) | ((first | refine RenV.gsE (by (first | exact List.Mem.head _ | exact List.Mem.tail _ (List.Mem.head _) | exact List.Mem.tail _ (List.Mem.tail _ (List.Mem.head _)) | (simp; done))) ?_ | refine RenV.eq (scI_eq ?_) (nameless_sc _)); (first | rfl | omega | (simp only [List.length_append, List.length_cons, List.length_nil, List.length_map, List.length_take, List.length_drop] <;> omega) | (simp only <;> omega) | (simp <;> omega))) | exact RenV.undef) | (with_unfolding_all exact (rfl : (_ : VObj) = _)))))
    · obtain rfl : i = its.length := by omega
      rw [List.take_length] at h2
      rw [← h2]
      repeat' (first | with_reducible refine And.intro ?_ ?_ | ((with_reducible intro hc); (try simp only [zA, zB, zC, zD, zE, zF, zG, zH, zI, zJ, zK, zL, zM, zN, zO, zP, zQ, zR, zS, zT, zU, zV, zW] at hc); (first | (exact absurd rfl hc) | (exact absurd trivial hc) | (exfalso; omega) | skip)) | exact Is.mk rfl rfl | ((conv => whnf); first | with_reducible refine And.intro ?_ ?_ | with_reducible intro hx | exact Is.mk rfl rfl | (with_reducible first | apply Val.via | apply ValH.via) | refine ifB_intro ?_ ?_ | refine xA (by omega) ?_ | ((refine xB ?_); intro kw hk1 hk2) | refine xC (by omega) ?_ | refine xD ?_ | refine xE (by omega) ?_ | refine xF (by omega) ?_ | refine xG ?_ | refine xH ?_ | refine xI (by omega) ?_ | refine xJ (by omega) ?_ | (with_reducible refine stopA ?_) | refine Exists.intro _ (And.intro (by (first | exact vat_of rfl rfl rfl | exact vbytes_map done | rfl)) ?_) | refine GOp.drawn (by rfl) (by rfl) (Nat.le_of_ble_eq_true (by rfl)) (by rfl) | refine GOp.via (by rfl) ?_ | refine GWP.drawY mixed _ (by kernel_rfl) (by rfl) ?_ | fail | (with_reducible first | refine stopO ?_ | refine stopE ?_ | refine stopD ?_ | refine stopW ?_ | refine stopG ?_ | refine stopC ?_ | refine stopR ?_)))
      all_goals (first | omega | (rw [List.length_map]; done) | skip)
      exact Done'.mk rfl
end Go.Proofs.YtmmjgbdihgdekaaDoor

/- The document's Parse, walked. -/
namespace Go.Proofs.YtmmjgbdihgdekaaDoor
open Go Go.RowKit
set_option linter.unusedSimpArgs false
set_option linter.unusedVariables false
set_option maxRecDepth 100000
set_option maxHeartbeats 16000000
theorem vagg_sP : vagg Tryd.prog 9 = some false := by kernel_rfl
theorem maps_atP {l : List (List UInt8)} {i : Nat} {b : List UInt8} (h : l[i]? = some b) : (l.map strV)[i]? = some (strV b) := by
  rw [List.getElem?_map, h]; rfl
theorem splitGo_small (b : UInt8) : ∀ (l cur : List UInt8), (splitGo b l cur).length ≤ l.length + 1 ∧ ∀ p ∈ splitGo b l cur, p.length ≤ l.length + cur.length
  | [], cur => by simp [splitGo]
  | c :: r, cur => by
    unfold splitGo
    split
    · obtain ⟨h1, h2⟩ := splitGo_small b r []
      refine ⟨by simp only [List.length_cons]; omega, ?_⟩
      intro p hp
      simp only [List.mem_cons] at hp
      rcases hp with rfl | hp
      · omega
      · have := h2 p hp
        simp only [List.length_cons, List.length_nil] at this ⊢
        omega
    · obtain ⟨h1, h2⟩ := splitGo_small b r (cur ++ [c])
      refine ⟨by simp only [List.length_cons]; omega, ?_⟩
      intro p hp
      have := h2 p hp
      simp only [List.length_cons, List.length_nil, List.length_append] at this ⊢
      omega
/-- What the document's Parse hands back. -/
def rprV : PR → VV
  | .err e => .tp [.ro 0 [], iV e]
  | .ok l => .tp [.ro l.length (rowsT l), iV 0]
theorem parse32_call (t : List UInt8) (ht : t.length ≤ 20000) (H : Heap) : VCall Tryd.prog 33 [strV t] H (fun v K => v = rprV (pparse t) ∧ K = H) := by
  refine VCall.frozen (Q := fun v K => Frz K v (rprV (pparse t))) (by simp [nameless_strV]) ?_ (fun v K h => h)
  refine VCall.go Tryd.func33 rfl ?_
  unfold pparse
  have htz := str_size t
  have k0 := fun H => rsplit_call t 38 H (by omega)
  obtain ⟨hs1, hs2⟩ := splitGo_small 38 t []
  by_cases hl : 4096 < t.length
  · rw [if_pos hl]
    repeat' (first | with_reducible refine And.intro ?_ ?_ | ((with_reducible intro hc); (try simp only [zA, zB, zC, zD, zE, zF, zG, zH, zI, zJ, zK, zL, zM, zN, zO, zP, zQ, zR, zS, zT, zU, zV, zW] at hc); (first | (exact absurd rfl hc) | (exact absurd trivial hc) | (exfalso; omega) | skip)) | exact Is.mk rfl rfl | ((conv => whnf); first | with_reducible refine And.intro ?_ ?_ | with_reducible intro hx | exact Is.mk rfl rfl | (with_reducible first | apply Val.via | apply ValH.via) | refine ifB_intro ?_ ?_ | refine xA (by omega) ?_ | ((refine xB ?_); intro kw hk1 hk2) | refine xC (by omega) ?_ | refine xD ?_ | refine xE (by omega) ?_ | refine xF (by omega) ?_ | refine xG ?_ | refine xH ?_ | refine xI (by omega) ?_ | refine xJ (by omega) ?_ | (with_reducible refine stopA ?_) | refine Exists.intro _ (And.intro (by rfl) ?_) | refine GOp.drawn (by rfl) (by rfl) (Nat.le_of_ble_eq_true (by rfl)) (by rfl) | refine GOp.via (by rfl) ?_ | refine GWP.drawY mixed _ (by kernel_rfl) (by rfl) ?_ | fail | (with_reducible first | refine stopO ?_ | refine stopE ?_ | refine stopD ?_ | refine stopW ?_ | refine stopG ?_ | refine stopC ?_ | refine stopR ?_)))
    all_goals (first | omega | skip)
    exact Done'.mk (Frz.tp (.cons Frz.nil0 (.cons (Frz.of (nameless_sc _)) .nil)))
  · rw [if_neg hl]
    have hs1 : (splitB t 38).length ≤ t.length + 1 := hs1
    have hs2 : ∀ p ∈ splitB t 38, p.length ≤ t.length + 0 := hs2
    generalize splitB t 38 = ps at *
    repeat' (first | with_reducible refine And.intro ?_ ?_ | ((with_reducible intro hc); (try simp only [zA, zB, zC, zD, zE, zF, zG, zH, zI, zJ, zK, zL, zM, zN, zO, zP, zQ, zR, zS, zT, zU, zV, zW] at hc); (first | (exact absurd rfl hc) | (exact absurd trivial hc) | (exfalso; omega) | skip)) | exact Is.mk rfl rfl | ((conv => whnf); first | with_reducible refine And.intro ?_ ?_ | with_reducible intro hx | exact Is.mk rfl rfl | (with_reducible first | apply Val.via | apply ValH.via) | refine ifB_intro ?_ ?_ | refine xA (by omega) ?_ | ((refine xB ?_); intro kw hk1 hk2) | refine xC (by omega) ?_ | refine xD ?_ | refine xE (by omega) ?_ | refine xF (by omega) ?_ | refine xG ?_ | refine xH ?_ | refine xI (by omega) ?_ | refine xJ (by omega) ?_ | (with_reducible refine stopA ?_) | refine Exists.intro _ (And.intro (by rfl) ?_) | refine GOp.drawn (by rfl) (by rfl) (Nat.le_of_ble_eq_true (by rfl)) (by rfl) | refine GOp.via (by rfl) ?_ | refine GWP.drawY mixed _ (by kernel_rfl) (by rfl) ?_ | (refine GCall.mk ((k0 _).mono ?_); rintro _ _ ⟨rfl, rfl⟩) | (with_reducible first | refine stopO ?_ | refine stopE ?_ | refine stopD ?_ | refine stopW ?_ | refine stopG ?_ | refine stopC ?_ | refine stopR ?_)))
    all_goals (first | omega | skip)
    (refine GWP'.mk (GWP.loopB [0] (fun (s : List PF × Nat) => s.2 ≤ ps.length ∧ pfold (ps.drop s.2) s.1 = pfold ps [] ∧ s.1.length ≤ 64) (fun s => [(4, .gs 1 s.1.length 2), (21, iV s.2)]) (fun s => [(1, .opt (rowsT s.1))]) 2 (fun s => ps.length - s.2) ([], 0) ⟨Nat.zero_le _, rfl, Nat.zero_le _⟩ ?_); (conv => whnf); refine And.intro ?_ ?_)
    · focus (refine KeptA.of [] rfl rfl (by repeat' (first | exact trivial | refine And.intro rfl ?_)) rfl ?_ ?_; all_goals (repeat' (first | exact trivial | (refine And.intro ?_ ?_) | (refine Exists.intro _ (And.intro rfl ?_)) | (refine RenO.opt ?_) | (refine RenO.toOpt ?_) | (refine RenO.cells ?_) | exact RenO.defs | exact RenL.nil | (refine RenL.cons ?_ ?_) | (first | exact RenV.gsZ | (with_reducible exact RenV.sc) | exact RenV.gsN | exact RenV.gsZ | exact RenV.gsL (by decide) | exact RenV.slL (by decide) | ((first | refine RenV.gsE (by (first | exact List.Mem.head _ | exact List.Mem.tail _ (List.Mem.head _) | exact List.Mem.tail _ (List.Mem.tail _ (List.Mem.head _)) | (simp; done))) ?_ | refine RenV.eq (scI_eq ?_) (nameless_sc _)); (first | rfl | omega | (simp only [List.length_append, List.length_cons, List.length_nil, List.length_map, List.length_take, List.length_drop] <;> omega) | (simp only <;> omega) | (simp <;> omega))) | exact RenV.undef) | (with_unfolding_all exact (rfl : (_ : VObj) = _)))))
    rintro ⟨acc, i⟩ ⟨h1, h2, h3⟩
    simp only at h1 h2 h3 ⊢
    by_cases hil : i < ps.length
    · obtain ⟨p, hp⟩ : ∃ f, ps[i]? = some f := ⟨ps[i], List.getElem?_eq_getElem hil⟩
      have hpl := hs2 p (List.mem_of_getElem? hp)
      have hd : ps.drop i = p :: ps.drop (i + 1) := by
        obtain ⟨hi, e⟩ := List.getElem?_eq_some_iff.1 hp
        rw [List.drop_eq_getElem_cons hi, e]
      rw [hd, pfold_cons] at h2
      by_cases hp0 : p = []
      · rw [if_pos hp0] at h2
        subst hp0
        repeat' (first | with_reducible refine And.intro ?_ ?_ | ((with_reducible intro hc); (try simp only [zA, zB, zC, zD, zE, zF, zG, zH, zI, zJ, zK, zL, zM, zN, zO, zP, zQ, zR, zS, zT, zU, zV, zW] at hc); (first | (exact absurd rfl hc) | (exact absurd trivial hc) | (exfalso; omega) | skip)) | exact Is.mk rfl rfl | ((conv => whnf); first | with_reducible refine And.intro ?_ ?_ | with_reducible intro hx | exact Is.mk rfl rfl | (with_reducible first | apply Val.via | apply ValH.via) | refine ifB_intro ?_ ?_ | refine xA (by omega) ?_ | ((refine xB ?_); intro kw hk1 hk2) | refine xC (by omega) ?_ | refine xD ?_ | refine xE (by omega) ?_ | refine xF (by omega) ?_ | refine xG ?_ | refine xH ?_ | refine xI (by omega) ?_ | refine xJ (by omega) ?_ | (with_reducible refine stopA ?_) | refine Exists.intro _ (And.intro (by (first | exact vat_of vagg_sP (maps_atP hp) (mul1 rfl rfl) | exact vat_of rfl rfl rfl | rfl)) ?_) | refine GOp.drawn (by rfl) (by rfl) (Nat.le_of_ble_eq_true (by rfl)) (by rfl) | refine GOp.via (by rfl) ?_ | refine GWP.drawY mixed _ (by kernel_rfl) (by rfl) ?_ | fail | (with_reducible first | refine stopO ?_ | refine stopE ?_ | refine stopD ?_ | refine stopW ?_ | refine stopG ?_ | refine stopC ?_ | refine stopR ?_)))
        all_goals (first | omega | skip)
        focus (refine Done'.mk ⟨(acc, i + 1), ⟨by simp only; omega, h2, h3⟩, ?_, KeptA.of [(1, 1)] rfl rfl (by repeat' (first | exact trivial | refine And.intro rfl ?_)) rfl ?_ ?_⟩; (first | omega | (simp only; omega)); all_goals (repeat' (first | exact trivial | (refine And.intro ?_ ?_) | (refine Exists.intro _ (And.intro rfl ?_)) | (refine RenO.opt ?_) | (refine RenO.toOpt ?_) | (refine RenO.cells ?_) | exact RenO.defs | exact RenL.nil | (refine RenL.cons ?_ ?_) | (first | (first | exact RenL.of (rowsT_nameless _) | exact RenV.eq (scI_eq (by omega)) (nameless_sc _)) | (with_reducible exact RenV.sc) | exact RenV.gsN | exact RenV.gsZ | exact RenV.gsL (by decide) | exact RenV.slL (by decide) | ((first | refine RenV.gsE (by (first | exact List.Mem.head _ | exact List.Mem.tail _ (List.Mem.head _) | exact List.Mem.tail _ (List.Mem.tail _ (List.Mem.head _)) | (simp; done))) ?_ | refine RenV.eq (scI_eq ?_) (nameless_sc _)); (first | rfl | omega | (simp only [List.length_append, List.length_cons, List.length_nil, List.length_map, List.length_take, List.length_drop] <;> omega) | (simp only <;> omega) | (simp <;> omega))) | exact RenV.undef) | (with_unfolding_all exact (rfl : (_ : VObj) = _)))))
      · rw [if_neg hp0] at h2
        by_cases h64 : 64 ≤ acc.length
        · rw [if_pos h64] at h2
          repeat' (first | with_reducible refine And.intro ?_ ?_ | ((with_reducible intro hc); (try simp only [zA, zB, zC, zD, zE, zF, zG, zH, zI, zJ, zK, zL, zM, zN, zO, zP, zQ, zR, zS, zT, zU, zV, zW] at hc); (first | (exact absurd rfl hc) | (exact absurd trivial hc) | (exfalso; omega) | skip)) | exact Is.mk rfl rfl | ((conv => whnf); first | with_reducible refine And.intro ?_ ?_ | with_reducible intro hx | exact Is.mk rfl rfl | (with_reducible first | apply Val.via | apply ValH.via) | refine ifB_intro ?_ ?_ | refine xA (by omega) ?_ | ((refine xB ?_); intro kw hk1 hk2) | refine xC (by omega) ?_ | refine xD ?_ | refine xE (by omega) ?_ | refine xF (by omega) ?_ | refine xG ?_ | refine xH ?_ | refine xI (by omega) ?_ | refine xJ (by omega) ?_ | (with_reducible refine stopA ?_) | refine Exists.intro _ (And.intro (by (first | exact vat_of vagg_sP (maps_atP hp) (mul1 rfl rfl) | exact vat_of rfl rfl rfl | rfl)) ?_) | refine GOp.drawn (by rfl) (by rfl) (Nat.le_of_ble_eq_true (by rfl)) (by rfl) | refine GOp.via (by rfl) ?_ | refine GWP.drawY mixed _ (by kernel_rfl) (by rfl) ?_ | fail | (with_reducible first | refine stopO ?_ | refine stopE ?_ | refine stopD ?_ | refine stopW ?_ | refine stopG ?_ | refine stopC ?_ | refine stopR ?_)))
          all_goals (first | omega | (exfalso; exact hp0 hc) | skip)
          rw [← h2]
          exact Done'.mk (Frz.tp (.cons Frz.nil0 (.cons (Frz.of (nameless_sc _)) .nil)))
        · rw [if_neg h64] at h2
          have hat := fun H => rat_call p 61 H (by omega)
          have hcl := cutB_len p 61
          have hp1 := fun H => plain32_call (cutB p 61).1 (by omega) H
          have hp2 := fun H => plain32_call (cutB p 61).2.1 (by omega) H
          generalize plainB (cutB p 61).1 = o1 at *
          generalize plainB (cutB p 61).2.1 = o2 at *
          generalize (cutB p 61).1 = y1 at *
          generalize (cutB p 61).2.1 = y2 at *
          generalize (cutB p 61).2.2 = y3 at *
          cases o1 with
          | none =>
            have h2 : PR.err 2 = pfold ps [] := h2
            cases o2 with
            | none =>
              unfold ptV at hp1 hp2
              repeat' (first | with_reducible refine And.intro ?_ ?_ | ((with_reducible intro hc); (try simp only [zA, zB, zC, zD, zE, zF, zG, zH, zI, zJ, zK, zL, zM, zN, zO, zP, zQ, zR, zS, zT, zU, zV, zW] at hc); (first | (exact absurd rfl hc) | (exact absurd trivial hc) | (exfalso; omega) | skip)) | exact Is.mk rfl rfl | ((conv => whnf); first | with_reducible refine And.intro ?_ ?_ | with_reducible intro hx | exact Is.mk rfl rfl | (with_reducible first | apply Val.via | apply ValH.via) | refine ifB_intro ?_ ?_ | refine xA (by omega) ?_ | ((refine xB ?_); intro kw hk1 hk2) | refine xC (by omega) ?_ | refine xD ?_ | refine xE (by omega) ?_ | refine xF (by omega) ?_ | refine xG ?_ | refine xH ?_ | refine xI (by omega) ?_ | refine xJ (by omega) ?_ | (with_reducible refine stopA ?_) | refine Exists.intro _ (And.intro (by (first | exact vat_of vagg_sP (maps_atP hp) (mul1 rfl rfl) | exact vat_of rfl rfl rfl | rfl)) ?_) | refine GOp.drawn (by rfl) (by rfl) (Nat.le_of_ble_eq_true (by rfl)) (by rfl) | refine GOp.via (by rfl) ?_ | refine GWP.drawY mixed _ (by kernel_rfl) (by rfl) ?_ | (first | (refine GCall.mk ((hat _).mono ?_); rintro _ _ ⟨rfl, rfl⟩) | (refine GCall.mk ((hp1 _).mono ?_); rintro _ _ ⟨rfl, rfl⟩) | (refine GCall.mk ((hp2 _).mono ?_); rintro _ _ ⟨rfl, rfl⟩)) | (with_reducible first | refine stopO ?_ | refine stopE ?_ | refine stopD ?_ | refine stopW ?_ | refine stopG ?_ | refine stopC ?_ | refine stopR ?_)))
              all_goals (first | omega | (exfalso; exact hp0 hc) | skip)
              rw [← h2]
              exact Done'.mk (Frz.tp (.cons Frz.nil0 (.cons (Frz.of (nameless_sc _)) .nil)))
            | some v1 =>
              unfold ptV at hp1 hp2
              repeat' (first | with_reducible refine And.intro ?_ ?_ | ((with_reducible intro hc); (try simp only [zA, zB, zC, zD, zE, zF, zG, zH, zI, zJ, zK, zL, zM, zN, zO, zP, zQ, zR, zS, zT, zU, zV, zW] at hc); (first | (exact absurd rfl hc) | (exact absurd trivial hc) | (exfalso; omega) | skip)) | exact Is.mk rfl rfl | ((conv => whnf); first | with_reducible refine And.intro ?_ ?_ | with_reducible intro hx | exact Is.mk rfl rfl | (with_reducible first | apply Val.via | apply ValH.via) | refine ifB_intro ?_ ?_ | refine xA (by omega) ?_ | ((refine xB ?_); intro kw hk1 hk2) | refine xC (by omega) ?_ | refine xD ?_ | refine xE (by omega) ?_ | refine xF (by omega) ?_ | refine xG ?_ | refine xH ?_ | refine xI (by omega) ?_ | refine xJ (by omega) ?_ | (with_reducible refine stopA ?_) | refine Exists.intro _ (And.intro (by (first | exact vat_of vagg_sP (maps_atP hp) (mul1 rfl rfl) | exact vat_of rfl rfl rfl | rfl)) ?_) | refine GOp.drawn (by rfl) (by rfl) (Nat.le_of_ble_eq_true (by rfl)) (by rfl) | refine GOp.via (by rfl) ?_ | refine GWP.drawY mixed _ (by kernel_rfl) (by rfl) ?_ | (first | (refine GCall.mk ((hat _).mono ?_); rintro _ _ ⟨rfl, rfl⟩) | (refine GCall.mk ((hp1 _).mono ?_); rintro _ _ ⟨rfl, rfl⟩) | (refine GCall.mk ((hp2 _).mono ?_); rintro _ _ ⟨rfl, rfl⟩)) | (with_reducible first | refine stopO ?_ | refine stopE ?_ | refine stopD ?_ | refine stopW ?_ | refine stopG ?_ | refine stopC ?_ | refine stopR ?_)))
              all_goals (first | omega | (exfalso; exact hp0 hc) | skip)
              rw [← h2]
              exact Done'.mk (Frz.tp (.cons Frz.nil0 (.cons (Frz.of (nameless_sc _)) .nil)))
          | some n1 =>
            cases o2 with
            | none =>
              have h2 : PR.err 2 = pfold ps [] := h2
              unfold ptV at hp1 hp2
              repeat' (first | with_reducible refine And.intro ?_ ?_ | ((with_reducible intro hc); (try simp only [zA, zB, zC, zD, zE, zF, zG, zH, zI, zJ, zK, zL, zM, zN, zO, zP, zQ, zR, zS, zT, zU, zV, zW] at hc); (first | (exact absurd rfl hc) | (exact absurd trivial hc) | (exfalso; omega) | skip)) | exact Is.mk rfl rfl | ((conv => whnf); first | with_reducible refine And.intro ?_ ?_ | with_reducible intro hx | exact Is.mk rfl rfl | (with_reducible first | apply Val.via | apply ValH.via) | refine ifB_intro ?_ ?_ | refine xA (by omega) ?_ | ((refine xB ?_); intro kw hk1 hk2) | refine xC (by omega) ?_ | refine xD ?_ | refine xE (by omega) ?_ | refine xF (by omega) ?_ | refine xG ?_ | refine xH ?_ | refine xI (by omega) ?_ | refine xJ (by omega) ?_ | (with_reducible refine stopA ?_) | refine Exists.intro _ (And.intro (by (first | exact vat_of vagg_sP (maps_atP hp) (mul1 rfl rfl) | exact vat_of rfl rfl rfl | rfl)) ?_) | refine GOp.drawn (by rfl) (by rfl) (Nat.le_of_ble_eq_true (by rfl)) (by rfl) | refine GOp.via (by rfl) ?_ | refine GWP.drawY mixed _ (by kernel_rfl) (by rfl) ?_ | (first | (refine GCall.mk ((hat _).mono ?_); rintro _ _ ⟨rfl, rfl⟩) | (refine GCall.mk ((hp1 _).mono ?_); rintro _ _ ⟨rfl, rfl⟩) | (refine GCall.mk ((hp2 _).mono ?_); rintro _ _ ⟨rfl, rfl⟩)) | (with_reducible first | refine stopO ?_ | refine stopE ?_ | refine stopD ?_ | refine stopW ?_ | refine stopG ?_ | refine stopC ?_ | refine stopR ?_)))
              all_goals (first | omega | (exfalso; exact hp0 hc) | skip)
              rw [← h2]
              exact Done'.mk (Frz.tp (.cons Frz.nil0 (.cons (Frz.of (nameless_sc _)) .nil)))
            | some v1 =>
              have h2 : pfold (ps.drop (i + 1)) (acc ++ [(n1, v1)]) = pfold ps [] := h2
              unfold ptV at hp1 hp2
              repeat' (first | with_reducible refine And.intro ?_ ?_ | ((with_reducible intro hc); (try simp only [zA, zB, zC, zD, zE, zF, zG, zH, zI, zJ, zK, zL, zM, zN, zO, zP, zQ, zR, zS, zT, zU, zV, zW] at hc); (first | (exact absurd rfl hc) | (exact absurd trivial hc) | (exfalso; omega) | skip)) | exact Is.mk rfl rfl | ((conv => whnf); first | with_reducible refine And.intro ?_ ?_ | with_reducible intro hx | exact Is.mk rfl rfl | (with_reducible first | apply Val.via | apply ValH.via) | refine ifB_intro ?_ ?_ | refine xA (by omega) ?_ | ((refine xB ?_); intro kw hk1 hk2) | refine xC (by omega) ?_ | refine xD ?_ | refine xE (by omega) ?_ | refine xF (by omega) ?_ | refine xG ?_ | refine xH ?_ | refine xI (by omega) ?_ | refine xJ (by omega) ?_ | (with_reducible refine stopA ?_) | refine Exists.intro _ (And.intro (by (first | exact vat_of vagg_sP (maps_atP hp) (mul1 rfl rfl) | exact vat_of rfl rfl rfl | rfl)) ?_) | refine GOp.drawn (by rfl) (by rfl) (Nat.le_of_ble_eq_true (by rfl)) (by rfl) | refine GOp.via (by rfl) ?_ | refine GWP.drawY mixed _ (by kernel_rfl) (by rfl) ?_ | (first | (refine GCall.mk ((hat _).mono ?_); rintro _ _ ⟨rfl, rfl⟩) | (refine GCall.mk ((hp1 _).mono ?_); rintro _ _ ⟨rfl, rfl⟩) | (refine GCall.mk ((hp2 _).mono ?_); rintro _ _ ⟨rfl, rfl⟩) | (refine stopO (GOp'.grow rfl sty_T (d := .slice 45) Tryd.underlying40 (by intro k h; cases h) rfl (m := 1) (l := [strV n1, strV v1]) (by rfl) (by rfl) rfl (rowsT_len acc) (by omega) (by omega) ?_))) | (with_reducible first | refine stopO ?_ | refine stopE ?_ | refine stopD ?_ | refine stopW ?_ | refine stopG ?_ | refine stopC ?_ | refine stopR ?_)))
              all_goals (first | omega | (exfalso; exact hp0 hc) | skip)
              focus (refine Done'.mk ⟨(acc ++ [(n1, v1)], i + 1), ⟨by simp only; omega, h2, by simp only [List.length_append, List.length_cons, List.length_nil]; omega⟩, ?_, KeptA.of [(3, 1)] rfl rfl (by repeat' (first | exact trivial | refine And.intro rfl ?_)) rfl ?_ ?_⟩; (first | omega | (simp only; omega)); all_goals (repeat' (first | exact trivial | (refine And.intro ?_ ?_) | (refine Exists.intro _ (And.intro rfl ?_)) | (refine RenO.opt ?_) | (refine RenO.toOpt ?_) | (refine RenO.cells ?_) | exact RenO.defs | exact RenL.nil | (refine RenL.cons ?_ ?_) | (first | (first | exact RenL.eq (rowsT_snoc acc (n1, v1)).symm (rowsT_nameless _) | exact RenV.eq (scI_eq (by omega)) (nameless_sc _)) | (with_reducible exact RenV.sc) | exact RenV.gsN | exact RenV.gsZ | exact RenV.gsL (by decide) | exact RenV.slL (by decide) | ((first | refine RenV.gsE (by (first | exact List.Mem.head _ | exact List.Mem.tail _ (List.Mem.head _) | exact List.Mem.tail _ (List.Mem.tail _ (List.Mem.head _)) | (simp; done))) ?_ | refine RenV.eq (scI_eq ?_) (nameless_sc _)); (first | rfl | omega | (simp only [List.length_append, List.length_cons, List.length_nil, List.length_map, List.length_take, List.length_drop] <;> omega) | (simp only <;> omega) | (simp <;> omega))) | exact RenV.undef) | (with_unfolding_all exact (rfl : (_ : VObj) = _)))))
    · obtain rfl : i = ps.length := by omega
      rw [List.drop_length] at h2
      have h2 : PR.ok acc = pfold ps [] := h2
      rw [← h2]
      repeat' (first | with_reducible refine And.intro ?_ ?_ | ((with_reducible intro hc); (try simp only [zA, zB, zC, zD, zE, zF, zG, zH, zI, zJ, zK, zL, zM, zN, zO, zP, zQ, zR, zS, zT, zU, zV, zW] at hc); (first | (exact absurd rfl hc) | (exact absurd trivial hc) | (exfalso; omega) | skip)) | exact Is.mk rfl rfl | ((conv => whnf); first | with_reducible refine And.intro ?_ ?_ | with_reducible intro hx | exact Is.mk rfl rfl | (with_reducible first | apply Val.via | apply ValH.via) | refine ifB_intro ?_ ?_ | refine xA (by omega) ?_ | ((refine xB ?_); intro kw hk1 hk2) | refine xC (by omega) ?_ | refine xD ?_ | refine xE (by omega) ?_ | refine xF (by omega) ?_ | refine xG ?_ | refine xH ?_ | refine xI (by omega) ?_ | refine xJ (by omega) ?_ | (with_reducible refine stopA ?_) | refine Exists.intro _ (And.intro (by rfl) ?_) | refine GOp.drawn (by rfl) (by rfl) (Nat.le_of_ble_eq_true (by rfl)) (by rfl) | refine GOp.via (by rfl) ?_ | refine GWP.drawY mixed _ (by kernel_rfl) (by rfl) ?_ | fail | (with_reducible first | refine stopO ?_ | refine stopE ?_ | refine stopD ?_ | refine stopW ?_ | refine stopG ?_ | refine stopC ?_ | refine stopR ?_)))
      all_goals (first | omega | skip)
      exact Done'.mk (Frz.tp (.cons (frz_rowsT rfl) (.cons (Frz.of (nameless_sc _)) .nil)))
end Go.Proofs.YtmmjgbdihgdekaaDoor

