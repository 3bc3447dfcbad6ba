import Derived.Test.YtmmjgbdihgdekaaDoorH5
import Derived.Test.YtmmjgbdihgdekaaDoorH6
/- IndexByte, Index, Cut, At. -/
namespace Go.Proofs.YtmmjgbdihgdekaaDoor
open Go Go.RowKit
set_option linter.unusedSimpArgs false
set_option linter.unusedVariables false
set_option maxRecDepth 100000
set_option maxHeartbeats 4000000
/-- The first place of a byte; -1: none. -/
def idxB (l : List UInt8) (b : UInt8) : Int := if l.contains b then (l.idxOf b : Int) else -1
theorem find_range {p : Nat → Bool} {q : UInt8 → Bool} : ∀ (l : List UInt8) (k : Nat), (∀ i (h : i < l.length), p (k + i) = q l[i]) → (List.range' k l.length).find? p = (l.findIdx? q).map (k + ·)
  | [], k, _ => rfl
  | a :: r, k, h => by
    have h0 := h 0 (by simp)
    simp only [Nat.add_zero, List.getElem_cons_zero] at h0
    have ih := find_range (p := p) (q := q) r (k + 1) (fun i hi => by
      have := h (i + 1) (by simpa using hi)
      rw [show k + 1 + i = k + (i + 1) by omega, this]
      rfl)
    rw [List.length_cons, List.range'_succ, List.find?_cons, List.findIdx?_cons, h0, ih]
    cases q a
    · simp only [Bool.false_eq_true, if_false]
      cases r.findIdx? q
      · rfl
      · simp only [Option.map_some]; congr 1; omega
    · simp
theorem find_idx (l : List UInt8) (b : UInt8) : (match (List.range (⟨l.toArray⟩ : ByteArray).size).find? (fun i => (⟨l.toArray⟩ : ByteArray)[i]! == b) with | some i => (i : Int) | none => -1) = idxB l b := by
  have h := find_range (p := fun i => (⟨l.toArray⟩ : ByteArray)[i]! == b) (q := fun x => x == b) l 0 (fun i hi => by
    have : (⟨l.toArray⟩ : ByteArray)[i]! = l[i] := by
      rw [getElem!_pos (⟨l.toArray⟩ : ByteArray) i (by exact hi)]
      rfl
    simp only [Nat.zero_add, this])
  rw [str_size, List.range_eq_range', h]
  unfold idxB
  by_cases hb : l.contains b = true
  · rw [if_pos hb]
    have : l.findIdx? (fun x => x == b) = some (l.idxOf b) := by
      rw [List.findIdx?_eq_some_iff_findIdx_eq]
      refine ⟨?_, rfl⟩
      exact List.findIdx_lt_length_of_exists ⟨b, by simpa using hb, by simp⟩
    rw [this]
    simp
  · rw [if_neg hb]
    have : l.findIdx? (fun x => x == b) = none := by
      rw [List.findIdx?_eq_none_iff]
      intro x hx
      simp only [beq_eq_false_iff_ne, ne_eq]
      rintro rfl
      exact hb (by simpa using hx)
    rw [this]
    rfl
theorem argB_roB (l : List UInt8) (H : Heap) : argB H (roB l) = some (.string ⟨l.toArray⟩) := by
  simp only [argB, roB, velems, List.length_map, Nat.mul_one, if_true, vbytes_map]
theorem ext_index (l : List UInt8) (b : UInt8) (H : Heap) : vextern Tryd.prog 164 [roB l, bV b] H = some (iV (idxB l b)) := by
  have hf := Tryd.func164
  have hr : extRow Tryd.f164.name = some Extern.BytealgIndexByte.indexByte := by kernel_rfl
  have hb : Tryd.f164.body = none := rfl
  have ho : Tryd.f164.origin = "" := rfl
  have hp : pureRun Tryd.prog (Extern.BytealgIndexByte.indexByte #[.string ⟨l.toArray⟩, .int .u8 (b.toNat : Int)]) = some (.int .i64 (idxB l b)) := by
    rw [← find_idx, ib_eq]
    have e1 : Extern.Bytes.bytesOf (.string ⟨l.toArray⟩) = pure ⟨l.toArray⟩ := rfl
    have e2 : Extern.Bytes.asByte (.int .u8 (b.toNat : Int)) = pure b := by
      show (pure ((b.toNat : Int).toNat.toUInt8) : Sem UInt8) = pure b
      congr 1
      simp
    rw [e1, e2]
    show pureRun Tryd.prog (match (List.range (⟨l.toArray⟩ : ByteArray).size).find? (fun i => (⟨l.toArray⟩ : ByteArray)[i]! == b) with
      | some i => pure (goInt i)
      | none => pure (goInt (-1))) = _
    cases (List.range (⟨l.toArray⟩ : ByteArray).size).find? (fun i => (⟨l.toArray⟩ : ByteArray)[i]! == b) <;> rfl
  simp only [vextern, hf, hb, ho, if_true, hr, bV, argB_roB]
  rw [hp]
  rfl
theorem idxB_range (l : List UInt8) (b : UInt8) : -1 ≤ idxB l b ∧ idxB l b < l.length := by
  unfold idxB
  by_cases hb : l.contains b = true
  · rw [if_pos hb]
    have := List.idxOf_lt_length_of_mem (a := b) (l := l) (by simpa using hb)
    omega
  · rw [if_neg hb]
    omega
theorem indexByte_call (l : List UInt8) (b : UInt8) (H : Heap) : VCall Tryd.prog 133 [roB l, bV b] H (fun x K => x = iV (idxB l b) ∧ K = H) := by
  refine VCall.go Tryd.func133 rfl ?_
  repeat' (first | with_reducible refine And.intro ?_ ?_ | ((with_reducible intro hc); (try simp only [zA, zB, zC, zD, zE, zF, zG, zH, zI, zJ, zK, zL, zM, zN, zO, zP, zQ, zR, zS, zT, zU, zV, zW] at hc); (first | (exact absurd rfl hc) | (exact absurd trivial hc) | (exfalso; omega) | skip)) | ((conv => whnf); first | with_reducible refine And.intro ?_ ?_ | refine ifB_intro ?_ ?_ | refine xA (by omega) ?_ | ((refine xB ?_); intro kw hk1 hk2) | refine xC (by omega) ?_ | refine xD ?_ | refine xE (by omega) ?_ | refine xF (by omega) ?_ | refine xG ?_ | refine xH ?_ | refine xI (by omega) ?_ | refine xJ (by omega) ?_ | (with_reducible refine stopA ?_) | refine Exists.intro _ (And.intro (by rfl) ?_) | refine GOp.via (by rfl) ?_ | (with_reducible first | refine stopO ?_ | refine stopE ?_ | refine stopD ?_ | refine stopW ?_ | refine stopG ?_ | refine stopC ?_ | refine stopR ?_)))
  refine GExt'.via (ext_index l b H) ?_
  repeat' (first | with_reducible refine And.intro ?_ ?_ | ((with_reducible intro hc); (try simp only [zA, zB, zC, zD, zE, zF, zG, zH, zI, zJ, zK, zL, zM, zN, zO, zP, zQ, zR, zS, zT, zU, zV, zW] at hc); (first | (exact absurd rfl hc) | (exact absurd trivial hc) | (exfalso; omega) | skip)) | ((conv => whnf); first | with_reducible refine And.intro ?_ ?_ | refine ifB_intro ?_ ?_ | refine xA (by omega) ?_ | ((refine xB ?_); intro kw hk1 hk2) | refine xC (by omega) ?_ | refine xD ?_ | refine xE (by omega) ?_ | refine xF (by omega) ?_ | refine xG ?_ | refine xH ?_ | refine xI (by omega) ?_ | refine xJ (by omega) ?_ | (with_reducible refine stopA ?_) | refine Exists.intro _ (And.intro (by rfl) ?_) | refine GOp.via (by rfl) ?_ | (with_reducible first | refine stopO ?_ | refine stopE ?_ | refine stopD ?_ | refine stopW ?_ | refine stopG ?_ | refine stopC ?_ | refine stopR ?_)))
  exact Done'.mk ⟨rfl, rfl⟩
/-- A heap with one byte in it. -/
def H1 (b : UInt8) : Heap := ⟨[(0, .cells true [bV b])], 1⟩
theorem index_call (l : List UInt8) (b : UInt8) : VCall Tryd.prog 149 [roB l, .sl 0 0 1 (some 1) 1] (H1 b) (fun x K => x = iV (idxB l b) ∧ K = H1 b) := by
  refine VCall.go Tryd.func149 rfl ?_
  repeat' (first | with_reducible refine And.intro ?_ ?_ | ((with_reducible intro hc); (try simp only [zA, zB, zC, zD, zE, zF, zG, zH, zI, zJ, zK, zL, zM, zN, zO, zP, zQ, zR, zS, zT, zU, zV, zW] at hc); (first | (exact absurd rfl hc) | (exact absurd trivial hc) | (exfalso; omega) | skip)) | ((conv => whnf); first | with_reducible refine And.intro ?_ ?_ | refine ifB_intro ?_ ?_ | refine xA (by omega) ?_ | ((refine xB ?_); intro kw hk1 hk2) | refine xC (by omega) ?_ | refine xD ?_ | refine xE (by omega) ?_ | refine xF (by omega) ?_ | refine xG ?_ | refine xH ?_ | refine xI (by omega) ?_ | refine xJ (by omega) ?_ | (with_reducible refine stopA ?_) | refine Exists.intro _ (And.intro (by rfl) ?_) | refine GOp.via (by rfl) ?_ | (with_reducible first | refine stopO ?_ | refine stopE ?_ | refine stopD ?_ | refine stopW ?_ | refine stopG ?_) | (refine GCall.mk ((indexByte_call l b _).mono ?_); rintro _ _ ⟨rfl, rfl⟩) | (with_reducible refine stopC ?_) | (with_reducible refine stopR ?_)))
  all_goals (first | omega | exact Done'.mk ⟨rfl, rfl⟩)
end Go.Proofs.YtmmjgbdihgdekaaDoor

/- percent: which bytes are free, and the numbers of digits, by reckoning. -/
namespace Go.Proofs.YtmmjgbdihgdekaaDoor
open Go Go.RowKit
set_option linter.unusedSimpArgs false
set_option linter.unusedVariables false
set_option maxRecDepth 100000
set_option maxHeartbeats 4000000
theorem VCall.bytesI {P : Program} {f : FuncId} (hm : P.follows .mixedOrders = true) (n : Nat) (g : UInt8 → Int) (h : ((List.range 256).all fun k => isV (vcallW P (vcode P n) f [.sc (.int .u8 (k : Int))] ⟨[], 0⟩) (.sc (.int .i64 (g (UInt8.ofNat k))))) = true) (b : UInt8) (H : Heap) : VCall P f [bV b] H (fun x K => x = iV (g b) ∧ K = H) := by
  have hb := List.all_eq_true.1 h b.toNat (List.mem_range.2 (u8_lt b))
  rw [UInt8.ofNat_toNat] at hb
  unfold isV at hb
  split at hb
  · rename_i v K hr
    have := veq_eq hb
    subst this
    refine (VCall.apart (Q := fun x K' => x = .sc (.int .i64 (g b)) ∧ K' = K) (by simp [nameless_sc, bV]) (VCall.run hm n hr) (fun v K e => e.1 ▸ exact_sc _)).mono ?_
    rintro v K' ⟨⟨_, e, _⟩, e2⟩
    exact ⟨e, e2⟩
  · simp at hb
/-- The number of a digit; 16: it is none. -/
def hexN (b : UInt8) : Nat := if 48 ≤ b.toNat ∧ b.toNat ≤ 57 then b.toNat - 48 else if 65 ≤ b.toNat ∧ b.toNat ≤ 70 then b.toNat - 55 else if 97 ≤ b.toNat ∧ b.toNat ≤ 102 then b.toNat - 87 else 16
def hexI (b : UInt8) : Int := if hexN b = 16 then -1 else (hexN b : Int)
theorem digit_call (b : UInt8) (H : Heap) : VCall Tryd.prog 184 [bV b] H (fun x K => x = iV (hexI b) ∧ K = H) := VCall.bytesI mixed 60 hexI (by kernel_rfl) b H
theorem hexN_le (b : UInt8) : hexN b ≤ 16 := by
  unfold hexN
  repeat' split
  all_goals omega
theorem hexI_neg {b : UInt8} (h : ¬ hexN b < 16) : hexI b = -1 := by
  have := hexN_le b
  unfold hexI
  rw [if_pos (by omega)]
theorem hexI_pos {b : UInt8} (h : hexN b < 16) : hexI b = (hexN b : Int) := by
  unfold hexI
  rw [if_neg (by omega)]
end Go.Proofs.YtmmjgbdihgdekaaDoor

/- percent: a text, decoded and encoded (the program's), walked. -/
namespace Go.Proofs.YtmmjgbdihgdekaaDoor
open Go Go.RowKit
set_option linter.unusedSimpArgs false
set_option linter.unusedVariables false
set_option maxRecDepth 100000
set_option maxHeartbeats 4000000
/-- The first byte of a text, and how many of its bytes that takes; none: it is of no form. -/
def rdB : List UInt8 → Option (UInt8 × List UInt8)
  | [] => none
  | c :: r => if c ≠ 37 then some (c, r) else match r with
    | a :: b :: r' => if hexN a < 16 ∧ hexN b < 16 then some (UInt8.ofNat (hexN a * 16 + hexN b), r') else none
    | _ => none
theorem rdB_plain {c : UInt8} (r : List UInt8) (h : c ≠ 37) : rdB (c :: r) = some (c, r) := by simp [rdB, h]
theorem rdB_hex (a b : UInt8) (r : List UInt8) : rdB (37 :: a :: b :: r) = if hexN a < 16 ∧ hexN b < 16 then some (UInt8.ofNat (hexN a * 16 + hexN b), r) else none := by simp [rdB]
def decB (n : Nat) : List UInt8 → Option (List UInt8)
  | [] => some []
  | c :: r => match n with
    | 0 => none
    | n + 1 => match rdB (c :: r) with
      | none => none
      | some (b, r') => (decB n r').map (b :: ·)
theorem or_shl4 : ∀ a b : Fin 16, bitZ .or .i64 (shlZ .i64 ((a.val : Nat) : Int) 4) ((b.val : Nat) : Int) = ((a.val * 16 + b.val : Nat) : Int) := by rw [bitZ_def, shlZ_def]; decide +kernel
theorem or_hex {a b : UInt8} (ha : hexN a < 16) (hb : hexN b < 16) : bitZ .or .i64 (shlZ .i64 (hexN a : Int) 4) (hexN b : Int) = ((hexN a * 16 + hexN b : Nat) : Int) := or_shl4 ⟨hexN a, ha⟩ ⟨hexN b, hb⟩
def rdV (l : List UInt8) : VV := match rdB l with
  | some (b, r) => .tp [bV b, iV ((l.length - r.length : Nat) : Int)]
  | none => .tp [bV 0, iV 0]
theorem read_call (l : List UInt8) (h0 : l ≠ []) (hl : l.length ≤ 100000) (H : Heap) : VCall Tryd.prog 150 [roB l] H (fun x K => x = rdV l ∧ K = H) := by
  refine VCall.pure (by simp [nameless_roB]) (by unfold rdV; split <;> exact nameless_tp (by simp [nameless_sc, bV, iV])) ?_
  cases l with
  | nil => exact absurd rfl h0
  | cons c r =>
    refine VCall.go Tryd.func150 rfl ?_
    by_cases hc : c = 37
    · subst hc
      match r with
      | [] =>
        repeat' (first | with_reducible refine And.intro ?_ ?_ | ((with_reducible intro hc); (try simp only [zA, zB, zC, zD, zE, zF, zG, zH, zI, zJ, zK, zL, zM, zN, zO, zP, zQ, zR, zS, zT, zU, zV, zW] at hc); (first | (exact absurd rfl hc) | (exact absurd trivial hc) | (exfalso; omega) | skip)) | exact Is.mk rfl rfl | ((conv => whnf); first | with_reducible refine And.intro ?_ ?_ | with_reducible intro hx | exact Is.mk rfl rfl | (with_reducible first | apply Val.via | apply ValH.via) | refine ifB_intro ?_ ?_ | refine xA (by omega) ?_ | ((refine xB ?_); intro kw hk1 hk2) | refine xC (by omega) ?_ | refine xD ?_ | refine xE (by omega) ?_ | refine xF (by omega) ?_ | refine xG ?_ | refine xH ?_ | refine xI (by omega) ?_ | refine xJ (by omega) ?_ | (with_reducible refine stopA ?_) | refine Exists.intro _ (And.intro (by (first | exact vat_of vagg_u8 rfl (mul1 rfl rfl) | exact vat_of rfl rfl rfl | rfl)) ?_) | refine GOp.drawn (by rfl) (by rfl) (Nat.le_of_ble_eq_true (by rfl)) (by rfl) | refine GOp.via (by rfl) ?_ | refine GWP.drawY mixed _ (by kernel_rfl) (by rfl) ?_ | fail | (with_reducible first | refine stopO ?_ | refine stopE ?_ | refine stopD ?_ | refine stopW ?_ | refine stopG ?_ | refine stopC ?_ | refine stopR ?_)))
        (all_goals (first | omega | (rw [List.length_map]; done) | (rw [List.length_map]; omega) | (simp only [List.length_cons, List.length_nil]; omega) | skip))
        exact Done'.mk rfl
      | [a] =>
        repeat' (first | with_reducible refine And.intro ?_ ?_ | ((with_reducible intro hc); (try simp only [zA, zB, zC, zD, zE, zF, zG, zH, zI, zJ, zK, zL, zM, zN, zO, zP, zQ, zR, zS, zT, zU, zV, zW] at hc); (first | (exact absurd rfl hc) | (exact absurd trivial hc) | (exfalso; omega) | skip)) | exact Is.mk rfl rfl | ((conv => whnf); first | with_reducible refine And.intro ?_ ?_ | with_reducible intro hx | exact Is.mk rfl rfl | (with_reducible first | apply Val.via | apply ValH.via) | refine ifB_intro ?_ ?_ | refine xA (by omega) ?_ | ((refine xB ?_); intro kw hk1 hk2) | refine xC (by omega) ?_ | refine xD ?_ | refine xE (by omega) ?_ | refine xF (by omega) ?_ | refine xG ?_ | refine xH ?_ | refine xI (by omega) ?_ | refine xJ (by omega) ?_ | (with_reducible refine stopA ?_) | refine Exists.intro _ (And.intro (by (first | exact vat_of vagg_u8 rfl (mul1 rfl rfl) | exact vat_of rfl rfl rfl | rfl)) ?_) | refine GOp.drawn (by rfl) (by rfl) (Nat.le_of_ble_eq_true (by rfl)) (by rfl) | refine GOp.via (by rfl) ?_ | refine GWP.drawY mixed _ (by kernel_rfl) (by rfl) ?_ | fail | (with_reducible first | refine stopO ?_ | refine stopE ?_ | refine stopD ?_ | refine stopW ?_ | refine stopG ?_ | refine stopC ?_ | refine stopR ?_)))
        (all_goals (first | omega | (rw [List.length_map]; done) | (rw [List.length_map]; omega) | (simp only [List.length_cons, List.length_nil]; omega) | skip))
        exact Done'.mk rfl
      | a :: b :: r' =>
        have h1 := fun H => digit_call a H
        have h2 := fun H => digit_call b H
        by_cases ha : hexN a < 16
        · rw [hexI_pos ha] at h1
          by_cases hb : hexN b < 16
          · rw [hexI_pos hb] at h2
            have hor := or_hex ha hb
            have hrd : rdV (37 :: a :: b :: r') = .tp [bV (UInt8.ofNat (hexN a * 16 + hexN b)), iV (((37 :: a :: b :: r').length - r'.length : Nat) : Int)] := by
              unfold rdV
              rw [rdB_hex, if_pos ⟨ha, hb⟩]
            rw [hrd]
            have h3 : ((37 :: a :: b :: r').length - r'.length : Nat) = 3 := by simp only [List.length_cons]; omega
            rw [h3]
            repeat' (first | with_reducible refine And.intro ?_ ?_ | ((with_reducible intro hc); (try simp only [zA, zB, zC, zD, zE, zF, zG, zH, zI, zJ, zK, zL, zM, zN, zO, zP, zQ, zR, zS, zT, zU, zV, zW] at hc); (first | (exact absurd rfl hc) | (exact absurd trivial hc) | (exfalso; omega) | skip)) | exact Is.mk rfl rfl | ((conv => whnf); first | with_reducible refine And.intro ?_ ?_ | with_reducible intro hx | exact Is.mk rfl rfl | (with_reducible first | apply Val.via | apply ValH.via) | refine ifB_intro ?_ ?_ | refine xA (by omega) ?_ | ((refine xB ?_); intro kw hk1 hk2) | refine xC (by omega) ?_ | refine xD ?_ | refine xE (by omega) ?_ | refine xF (by omega) ?_ | refine xG ?_ | refine xH ?_ | refine xI (by omega) ?_ | refine xJ (by omega) ?_ | (with_reducible refine stopA ?_) | refine Exists.intro _ (And.intro (by (first | exact vat_of vagg_u8 rfl (mul1 rfl rfl) | exact vat_of rfl rfl rfl | rfl)) ?_) | refine GOp.drawn (by rfl) (by rfl) (Nat.le_of_ble_eq_true (by rfl)) (by rfl) | refine GOp.via (by rfl) ?_ | refine GWP.drawY mixed _ (by kernel_rfl) (by rfl) ?_ | (first | (refine GCall.mk ((h1 _).mono ?_); rintro _ _ ⟨rfl, rfl⟩) | (refine GCall.mk ((h2 _).mono ?_); rintro _ _ ⟨rfl, rfl⟩)) | (with_reducible first | refine stopO ?_ | refine stopE ?_ | refine stopD ?_ | refine stopW ?_ | refine stopG ?_ | refine stopC ?_ | refine stopR ?_)))
            (all_goals (first | omega | (rw [List.length_map]; done) | (rw [List.length_map]; omega) | (simp only [List.length_cons, List.length_nil]; omega) | skip))
            refine Done'.mk ?_
            show VV.tp [.sc (.int .u8 (bitZ .or .i64 (shlZ .i64 (hexN a : Int) 4) (hexN b : Int))), iV 3] = _
            have hlt : hexN a * 16 + hexN b < 256 := by clear hor; omega
            rw [hor]
            unfold bV
            rw [UInt8.toNat_ofNat', Nat.mod_eq_of_lt hlt]
            rfl
          · rw [hexI_neg hb] at h2
            have hrd : rdV (37 :: a :: b :: r') = .tp [bV 0, iV 0] := by
              unfold rdV
              rw [rdB_hex, if_neg (fun h => hb h.2)]
            rw [hrd]
            repeat' (first | with_reducible refine And.intro ?_ ?_ | ((with_reducible intro hc); (try simp only [zA, zB, zC, zD, zE, zF, zG, zH, zI, zJ, zK, zL, zM, zN, zO, zP, zQ, zR, zS, zT, zU, zV, zW] at hc); (first | (exact absurd rfl hc) | (exact absurd trivial hc) | (exfalso; omega) | skip)) | exact Is.mk rfl rfl | ((conv => whnf); first | with_reducible refine And.intro ?_ ?_ | with_reducible intro hx | exact Is.mk rfl rfl | (with_reducible first | apply Val.via | apply ValH.via) | refine ifB_intro ?_ ?_ | refine xA (by omega) ?_ | ((refine xB ?_); intro kw hk1 hk2) | refine xC (by omega) ?_ | refine xD ?_ | refine xE (by omega) ?_ | refine xF (by omega) ?_ | refine xG ?_ | refine xH ?_ | refine xI (by omega) ?_ | refine xJ (by omega) ?_ | (with_reducible refine stopA ?_) | refine Exists.intro _ (And.intro (by (first | exact vat_of vagg_u8 rfl (mul1 rfl rfl) | exact vat_of rfl rfl rfl | rfl)) ?_) | refine GOp.drawn (by rfl) (by rfl) (Nat.le_of_ble_eq_true (by rfl)) (by rfl) | refine GOp.via (by rfl) ?_ | refine GWP.drawY mixed _ (by kernel_rfl) (by rfl) ?_ | (first | (refine GCall.mk ((h1 _).mono ?_); rintro _ _ ⟨rfl, rfl⟩) | (refine GCall.mk ((h2 _).mono ?_); rintro _ _ ⟨rfl, rfl⟩)) | (with_reducible first | refine stopO ?_ | refine stopE ?_ | refine stopD ?_ | refine stopW ?_ | refine stopG ?_ | refine stopC ?_ | refine stopR ?_)))
            (all_goals (first | omega | (rw [List.length_map]; done) | (rw [List.length_map]; omega) | (simp only [List.length_cons, List.length_nil]; omega) | skip))
            all_goals exact Done'.mk rfl
        · rw [hexI_neg ha] at h1
          have hrd : rdV (37 :: a :: b :: r') = .tp [bV 0, iV 0] := by
            unfold rdV
            rw [rdB_hex, if_neg (fun h => ha h.1)]
          rw [hrd]
          repeat' (first | with_reducible refine And.intro ?_ ?_ | ((with_reducible intro hc); (try simp only [zA, zB, zC, zD, zE, zF, zG, zH, zI, zJ, zK, zL, zM, zN, zO, zP, zQ, zR, zS, zT, zU, zV, zW] at hc); (first | (exact absurd rfl hc) | (exact absurd trivial hc) | (exfalso; omega) | skip)) | exact Is.mk rfl rfl | ((conv => whnf); first | with_reducible refine And.intro ?_ ?_ | with_reducible intro hx | exact Is.mk rfl rfl | (with_reducible first | apply Val.via | apply ValH.via) | refine ifB_intro ?_ ?_ | refine xA (by omega) ?_ | ((refine xB ?_); intro kw hk1 hk2) | refine xC (by omega) ?_ | refine xD ?_ | refine xE (by omega) ?_ | refine xF (by omega) ?_ | refine xG ?_ | refine xH ?_ | refine xI (by omega) ?_ | refine xJ (by omega) ?_ | (with_reducible refine stopA ?_) | refine Exists.intro _ (And.intro (by (first | exact vat_of vagg_u8 rfl (mul1 rfl rfl) | exact vat_of rfl rfl rfl | rfl)) ?_) | refine GOp.drawn (by rfl) (by rfl) (Nat.le_of_ble_eq_true (by rfl)) (by rfl) | refine GOp.via (by rfl) ?_ | refine GWP.drawY mixed _ (by kernel_rfl) (by rfl) ?_ | (first | (refine GCall.mk ((h1 _).mono ?_); rintro _ _ ⟨rfl, rfl⟩) | (refine GCall.mk ((h2 _).mono ?_); rintro _ _ ⟨rfl, rfl⟩)) | (with_reducible first | refine stopO ?_ | refine stopE ?_ | refine stopD ?_ | refine stopW ?_ | refine stopG ?_ | refine stopC ?_ | refine stopR ?_)))
          (all_goals (first | omega | (rw [List.length_map]; done) | (rw [List.length_map]; omega) | (simp only [List.length_cons, List.length_nil]; omega) | skip))
          all_goals exact Done'.mk rfl
    · have hcz : ¬ ((c.toNat : Int) = 37) := fun e => hc (UInt8.toNat_inj.1 (show c.toNat = (37 : UInt8).toNat by have h : (37 : UInt8).toNat = 37 := rfl; omega))
      have hrd : rdV (c :: r) = .tp [bV c, iV (((c :: r).length - r.length : Nat) : Int)] := by
        unfold rdV
        rw [rdB_plain r hc]
      have h3 : ((c :: r).length - r.length : Nat) = 1 := by simp only [List.length_cons]; omega
      rw [hrd, h3]
      repeat' (first | with_reducible refine And.intro ?_ ?_ | ((with_reducible intro hc); (try simp only [zA, zB, zC, zD, zE, zF, zG, zH, zI, zJ, zK, zL, zM, zN, zO, zP, zQ, zR, zS, zT, zU, zV, zW] at hc); (first | (exact absurd rfl hc) | (exact absurd trivial hc) | (exfalso; omega) | skip)) | exact Is.mk rfl rfl | ((conv => whnf); first | with_reducible refine And.intro ?_ ?_ | with_reducible intro hx | exact Is.mk rfl rfl | (with_reducible first | apply Val.via | apply ValH.via) | refine ifB_intro ?_ ?_ | refine xA (by omega) ?_ | ((refine xB ?_); intro kw hk1 hk2) | refine xC (by omega) ?_ | refine xD ?_ | refine xE (by omega) ?_ | refine xF (by omega) ?_ | refine xG ?_ | refine xH ?_ | refine xI (by omega) ?_ | refine xJ (by omega) ?_ | (with_reducible refine stopA ?_) | refine Exists.intro _ (And.intro (by (first | exact vat_of vagg_u8 rfl (mul1 rfl rfl) | exact vat_of rfl rfl rfl | rfl)) ?_) | refine GOp.drawn (by rfl) (by rfl) (Nat.le_of_ble_eq_true (by rfl)) (by rfl) | refine GOp.via (by rfl) ?_ | refine GWP.drawY mixed _ (by kernel_rfl) (by rfl) ?_ | fail | (with_reducible first | refine stopO ?_ | refine stopE ?_ | refine stopD ?_ | refine stopW ?_ | refine stopG ?_ | refine stopC ?_ | refine stopR ?_)))
      all_goals (first | omega | contradiction | exact Done'.mk rfl | (simp only [List.length_cons, List.length_nil]; omega) | skip)
theorem rdB_len {l : List UInt8} {b : UInt8} {r : List UInt8} (h : rdB l = some (b, r)) : r.length < l.length := by
  cases l with
  | nil => simp [rdB] at h
  | cons c t =>
    by_cases hc : c = 37
    · subst hc
      match t, h with
      | [], h => simp [rdB] at h
      | [a], h => simp [rdB] at h
      | a :: b :: t', h =>
        rw [rdB_hex] at h
        split at h
        · injection h with h
          injection h with _ h
          subst h
          simp only [List.length_cons]; omega
        · cases h
    · rw [rdB_plain t hc] at h
      injection h with h
      injection h with _ h
      subst h
      simp
theorem rdB_suf {l : List UInt8} {b : UInt8} {r : List UInt8} (h : rdB l = some (b, r)) : l.drop (l.length - r.length) = r := by
  cases l with
  | nil => simp [rdB] at h
  | cons c t =>
    by_cases hc : c = 37
    · subst hc
      match t, h with
      | [], h => simp [rdB] at h
      | [a], h => simp [rdB] at h
      | a :: b :: t', h =>
        rw [rdB_hex] at h
        split at h
        · injection h with h
          injection h with _ h
          subst h
          rw [show (37 :: a :: b :: t').length - t'.length = 3 by simp only [List.length_cons]; omega]
          rfl
        · cases h
    · rw [rdB_plain t hc] at h
      injection h with h
      injection h with _ h
      subst h
      rw [show (c :: t).length - t.length = 1 by simp only [List.length_cons]; omega]
      rfl
/-- Decoded. -/
def dcB (l : List UInt8) : Option (List UInt8) := decB l.length l
theorem decB_more : ∀ (n m : Nat) (l : List UInt8), l.length ≤ n → l.length ≤ m → decB n l = decB m l
  | n, m, [], _, _ => by cases n <;> cases m <;> rfl
  | 0, m, c :: r, h, _ => by simp at h
  | n + 1, 0, c :: r, _, h => by simp at h
  | n + 1, m + 1, c :: r, h1, h2 => by
    show (match rdB (c :: r) with
      | none => none
      | some (b, r') => (decB n r').map (b :: ·)) = (match rdB (c :: r) with
      | none => none
      | some (b, r') => (decB m r').map (b :: ·))
    cases h : rdB (c :: r) with
    | none => rfl
    | some p =>
      obtain ⟨b, r'⟩ := p
      have := rdB_len h
      simp only
      rw [decB_more n m r' (by omega) (by omega)]
theorem dcB_next {l : List UInt8} (h : l ≠ []) : dcB l = match rdB l with
    | none => none
    | some (b, r) => (dcB r).map (b :: ·) := by
  cases l with
  | nil => exact absurd rfl h
  | cons c t =>
    show (match rdB (c :: t) with
      | none => none
      | some (b, r') => (decB t.length r').map (b :: ·)) = _
    cases hr : rdB (c :: t) with
    | none => rfl
    | some p =>
      obtain ⟨b, r'⟩ := p
      have := rdB_len hr
      simp only
      unfold dcB
      rw [decB_more t.length r'.length r' (by simp only [List.length_cons] at this; omega) (Nat.le_refl _)]
def dcV : Option (List UInt8) → VV
  | some l => .tp [roB l, iV 0]
  | none => .tp [.ro 0 [], iV 2]
theorem GWP.drawF {P : Program} {r : Option Nat} {id : Nat} {ops : Array Oper} {Q : Exit → VSt → Prop} {s : VSt} (hm : P.follows .mixedOrders = true) (al m n : Nat) (va : VV) (f : Heap → Heap) (hb : (backN 0 ops.toList && nodupN (dstsOf ops.toList) && fitN n ops && tailB ops.toList al m && Nat.blt al m) = true) (hlen : s.tmps.length = n)
    (h : match s with | ⟨ts0, H, md⟩ => forceNL (ancIn ops.toList m [m]) fun an => wdrawE P ops ts0 al m an va H (f H) (fun V H' => tAllE ops.toList V ts0 fun ts => Q .normal ⟨ts, H', md⟩) 0 ops.toList []) : GWP P r (.region id ops true) Q s := by
  obtain ⟨ts0, H, md⟩ := s
  exact GWP.drawE hm al m n va (f H) hb hlen h
theorem decode_call (l : List UInt8) (hl : l.length ≤ 100000) (H : Heap) : VCall Tryd.prog 117 [roB l] H (fun x K => x = dcV (dcB l) ∧ K = H) := by
  refine VCall.frozen (Q := fun v K => Frz K v (dcV (dcB l))) (by simp [nameless_roB]) ?_ (fun v K h => h)
  refine VCall.go Tryd.func117 rfl ?_
  repeat' (first | with_reducible refine And.intro ?_ ?_ | ((with_reducible intro hc); (try simp only [zA, zB, zC, zD, zE, zF, zG, zH, zI, zJ, zK, zL, zM, zN, zO, zP, zQ, zR, zS, zT, zU, zV, zW] at hc); (first | (exact absurd rfl hc) | (exact absurd trivial hc) | (exfalso; omega) | skip)) | exact Is.mk rfl rfl | ((conv => whnf); first | with_reducible refine And.intro ?_ ?_ | with_reducible intro hx | exact Is.mk rfl rfl | (with_reducible first | apply Val.via | apply ValH.via) | refine ifB_intro ?_ ?_ | refine xA (by omega) ?_ | ((refine xB ?_); intro kw hk1 hk2) | refine xC (by omega) ?_ | refine xD ?_ | refine xE (by omega) ?_ | refine xF (by omega) ?_ | refine xG ?_ | refine xH ?_ | refine xI (by omega) ?_ | refine xJ (by omega) ?_ | (with_reducible refine stopA ?_) | refine Exists.intro _ (And.intro (by (first | exact vat_of rfl rfl rfl | rfl)) ?_) | refine GOp.drawn (by rfl) (by rfl) (Nat.le_of_ble_eq_true (by rfl)) (by rfl) | refine GOp.via (by rfl) ?_ | refine GWP.drawY mixed _ (by kernel_rfl) (by rfl) ?_ | fail | (with_reducible first | refine stopO ?_ | refine stopE ?_ | refine stopD ?_ | refine stopW ?_ | refine stopG ?_ | refine stopC ?_ | refine stopR ?_)))
  (all_goals (first | omega | (rw [List.length_map]; done) | (rw [List.length_map]; omega) | (simp only [List.length_cons, List.length_nil]; omega) | skip))
  (refine GWP'.mk (GWP.loopB [] (fun (s : List UInt8 × List UInt8) => s.1.length + s.2.length ≤ l.length ∧ (dcB s.2).map (s.1 ++ ·) = dcB l) (fun s => [(0, roB s.2), (4, .gs 0 s.1.length 1)]) (fun s => [(0, .opt (s.1.map bV))]) 1 (fun s => s.2.length) ([], l) ⟨by simp, by simp⟩ ?_); (conv => whnf); refine And.intro ?_ ?_)
  · focus (refine KeptA.of [] rfl rfl (by repeat' (first | exact trivial | refine And.intro rfl ?_)) rfl ?_ ?_; all_goals (repeat' (first | exact trivial | (refine And.intro ?_ ?_) | (refine Exists.intro _ (And.intro rfl ?_)) | (refine RenO.opt ?_) | (refine RenO.toOpt ?_) | (refine RenO.cells ?_) | exact RenO.defs | exact RenL.nil | (refine RenL.cons ?_ ?_) | (first | exact RenV.of (nameless_roB l) | (with_reducible exact RenV.sc) | exact RenV.gsN | exact RenV.gsZ | exact RenV.gsL (by decide) | exact RenV.slL (by decide) | ((first | refine RenV.gsE (by (first | exact List.Mem.head _ | exact List.Mem.tail _ (List.Mem.head _) | exact List.Mem.tail _ (List.Mem.tail _ (List.Mem.head _)) | (simp; done))) ?_ | refine RenV.eq (scI_eq ?_) (nameless_sc _)); (first | rfl | omega | (simp only [List.length_append, List.length_cons, List.length_nil, List.length_map, List.length_take, List.length_drop] <;> omega) | (simp only <;> omega) | (simp <;> omega))) | exact RenV.undef) | (with_unfolding_all exact (rfl : (_ : VObj) = _)))))
  rintro ⟨done, t⟩ ⟨h1, h2⟩
  simp only at h1 h2 ⊢
  by_cases h0 : t = []
  · subst h0
    repeat' (first | with_reducible refine And.intro ?_ ?_ | ((with_reducible intro hc); (try simp only [zA, zB, zC, zD, zE, zF, zG, zH, zI, zJ, zK, zL, zM, zN, zO, zP, zQ, zR, zS, zT, zU, zV, zW] at hc); (first | (exact absurd rfl hc) | (exact absurd trivial hc) | (exfalso; omega) | skip)) | exact Is.mk rfl rfl | ((conv => whnf); first | with_reducible refine And.intro ?_ ?_ | with_reducible intro hx | exact Is.mk rfl rfl | (with_reducible first | apply Val.via | apply ValH.via) | refine ifB_intro ?_ ?_ | refine xA (by omega) ?_ | ((refine xB ?_); intro kw hk1 hk2) | refine xC (by omega) ?_ | refine xD ?_ | refine xE (by omega) ?_ | refine xF (by omega) ?_ | refine xG ?_ | refine xH ?_ | refine xI (by omega) ?_ | refine xJ (by omega) ?_ | (with_reducible refine stopA ?_) | refine Exists.intro _ (And.intro (by (first | exact vat_of rfl rfl rfl | rfl)) ?_) | refine GOp.drawn (by rfl) (by rfl) (Nat.le_of_ble_eq_true (by rfl)) (by rfl) | refine GOp.via (by rfl) ?_ | refine GWP.drawY mixed _ (by kernel_rfl) (by rfl) ?_ | fail | (with_reducible first | refine stopO ?_ | refine stopE ?_ | refine stopD ?_ | refine stopW ?_ | refine stopG ?_ | refine stopC ?_ | refine stopR ?_)))
    (all_goals (first | omega | (rw [List.length_map]; done) | (rw [List.length_map]; omega) | (simp only [List.length_cons, List.length_nil]; omega) | skip))
    have h2 : some (done ++ []) = dcB l := h2
    rw [← h2, List.append_nil]
    exact Done'.mk (Frz.tp (.cons (frz_gsB rfl) (.cons (Frz.of (nameless_sc _)) .nil)))
  · have h00 : ¬ t.length = 0 := fun e => h0 (List.eq_nil_of_length_eq_zero e)
    have hrd := fun H => read_call t h0 (by omega) H
    rw [dcB_next h0] at h2
    unfold rdV at hrd
    cases hr : rdB t with
    | none =>
      rw [hr] at hrd h2
      have h2 : none = dcB l := h2
      repeat' (first | with_reducible refine And.intro ?_ ?_ | ((with_reducible intro hc); (try simp only [zA, zB, zC, zD, zE, zF, zG, zH, zI, zJ, zK, zL, zM, zN, zO, zP, zQ, zR, zS, zT, zU, zV, zW] at hc); (first | (exact absurd rfl hc) | (exact absurd trivial hc) | (exfalso; omega) | skip)) | exact Is.mk rfl rfl | ((conv => whnf); first | with_reducible refine And.intro ?_ ?_ | with_reducible intro hx | exact Is.mk rfl rfl | (with_reducible first | apply Val.via | apply ValH.via) | refine ifB_intro ?_ ?_ | refine xA (by omega) ?_ | ((refine xB ?_); intro kw hk1 hk2) | refine xC (by omega) ?_ | refine xD ?_ | refine xE (by omega) ?_ | refine xF (by omega) ?_ | refine xG ?_ | refine xH ?_ | refine xI (by omega) ?_ | refine xJ (by omega) ?_ | (with_reducible refine stopA ?_) | refine Exists.intro _ (And.intro (by (first | exact vat_of rfl rfl rfl | rfl)) ?_) | refine GOp.drawn (by rfl) (by rfl) (Nat.le_of_ble_eq_true (by rfl)) (by rfl) | refine GOp.via (by rfl) ?_ | refine GWP.drawY mixed _ (by kernel_rfl) (by rfl) ?_ | (refine GCall.mk ((hrd _).mono ?_); rintro _ _ ⟨rfl, rfl⟩) | (with_reducible first | refine stopO ?_ | refine stopE ?_ | refine stopD ?_ | refine stopW ?_ | refine stopG ?_ | refine stopC ?_ | refine stopR ?_)))
      (all_goals (first | omega | (rw [List.length_map]; done) | (rw [List.length_map]; omega) | (simp only [List.length_cons, List.length_nil]; omega) | skip))
      rw [← h2]
      exact Done'.mk (Frz.tp (.cons Frz.nil0 (.cons (Frz.of (nameless_sc _)) .nil)))
    | some p =>
      obtain ⟨b, r⟩ := p
      rw [hr] at hrd h2
      have hlt := rdB_len hr
      have hsf := rdB_suf hr
      have hsl : VV.ro (t.length - ((t.length - r.length : Nat) : Int).toNat) (((t.map bV).drop (((t.length - r.length : Nat) : Int).toNat * 1)).take ((t.length - ((t.length - r.length : Nat) : Int).toNat) * 1)) = roB r := by
        rw [Int.toNat_natCast, Nat.mul_one, Nat.mul_one, ← List.map_drop, hsf, show t.length - (t.length - r.length) = r.length by omega, List.take_of_length_le (by simp)]
        rfl
      have h2 : ((dcB r).map (b :: ·)).map (done ++ ·) = dcB l := h2
      have hln : (done ++ [b]).length = done.length + 1 := by simp
      repeat' (first | with_reducible refine And.intro ?_ ?_ | ((with_reducible intro hc); (try simp only [zA, zB, zC, zD, zE, zF, zG, zH, zI, zJ, zK, zL, zM, zN, zO, zP, zQ, zR, zS, zT, zU, zV, zW] at hc); (first | (exact absurd rfl hc) | (exact absurd trivial hc) | (exfalso; omega) | skip)) | exact Is.mk rfl rfl | ((conv => whnf); first | with_reducible refine And.intro ?_ ?_ | with_reducible intro hx | exact Is.mk rfl rfl | (with_reducible first | apply Val.via | apply ValH.via) | refine ifB_intro ?_ ?_ | refine xA (by omega) ?_ | ((refine xB ?_); intro kw hk1 hk2) | refine xC (by omega) ?_ | refine xD ?_ | refine xE (by omega) ?_ | refine xF (by omega) ?_ | refine xG ?_ | refine xH ?_ | refine xI (by omega) ?_ | refine xJ (by omega) ?_ | (with_reducible refine stopA ?_) | refine Exists.intro _ (And.intro (by (first | exact vat_of rfl rfl rfl | rfl)) ?_) | refine GOp.drawn (by rfl) (by rfl) (Nat.le_of_ble_eq_true (by rfl)) (by rfl) | refine GOp.via (by rfl) ?_ | (refine GCall.mk ((hrd _).mono ?_); rintro _ _ ⟨rfl, rfl⟩) | (with_reducible first | refine stopO ?_ | refine stopE ?_ | refine stopD ?_ | refine stopW ?_ | refine stopG ?_ | refine stopC ?_ | refine stopR ?_)))
      (all_goals (first | omega | (rw [List.length_map]; done) | (rw [List.length_map]; omega) | (simp only [List.length_cons, List.length_nil]; omega) | skip))
      refine GWP'.mk (GWP.drawF mixed 3 9 25 (.gs 1 (done.length + 1) 1) (fun H => (H.del 0).add (.opt (done.map bV ++ [bV b]))) (by kernel_rfl) (by rfl) ?_)
      repeat' (first | with_reducible refine And.intro ?_ ?_ | ((with_reducible intro hc); (try simp only [zA, zB, zC, zD, zE, zF, zG, zH, zI, zJ, zK, zL, zM, zN, zO, zP, zQ, zR, zS, zT, zU, zV, zW] at hc); (first | (exact absurd rfl hc) | (exact absurd trivial hc) | (exfalso; omega) | skip)) | exact Is.mk rfl rfl | ((conv => whnf); first | with_reducible refine And.intro ?_ ?_ | with_reducible intro hx | exact Is.mk rfl rfl | (with_reducible first | apply Val.via | apply ValH.via) | refine ifB_intro ?_ ?_ | refine xA (by omega) ?_ | ((refine xB ?_); intro kw hk1 hk2) | refine xC (by omega) ?_ | refine xD ?_ | refine xE (by omega) ?_ | refine xF (by omega) ?_ | refine xG ?_ | refine xH ?_ | refine xI (by omega) ?_ | refine xJ (by omega) ?_ | (with_reducible refine stopA ?_) | refine Exists.intro _ (And.intro (by (first | exact vat_of rfl rfl rfl | rfl)) ?_) | refine GOp.drawn (by rfl) (by rfl) (Nat.le_of_ble_eq_true (by rfl)) (by rfl) | refine GOp.via (by rfl) ?_ | refine GWP.drawY mixed _ (by kernel_rfl) (by rfl) ?_ | (refine stopO (GOp'.grow rfl sty_b (d := .slice 5) Tryd.underlying22 (by intro k h; cases h) rfl (m := 1) (l := [bV b]) (by rfl) (by rfl) rfl (by simp) (by omega) (by omega) ?_)) | (with_reducible first | refine stopO ?_ | refine stopE ?_ | refine stopD ?_ | refine stopW ?_ | refine stopG ?_ | refine stopC ?_ | refine stopR ?_)))
      (all_goals (first | omega | (rw [List.length_map]; done) | (rw [List.length_map]; omega) | (simp only [List.length_cons, List.length_nil]; omega) | skip))
      focus (refine Done'.mk ⟨(done ++ [b], r), ⟨by simp only; omega, by simp only; rw [← h2, Option.map_map]; congr 1; funext x; simp⟩, ?_, KeptA.of [(1, 0)] rfl rfl (by repeat' (first | exact trivial | refine And.intro rfl ?_)) rfl ?_ ?_⟩; (first | omega | (simp only; omega)); all_goals (repeat' (first | exact trivial | (refine And.intro ?_ ?_) | (refine Exists.intro _ (And.intro rfl ?_)) | (refine RenO.opt ?_) | (refine RenO.toOpt ?_) | (refine RenO.cells ?_) | exact RenO.defs | exact RenL.nil | (refine RenL.cons ?_ ?_) | (first | (first | exact RenL.eq (by simp) (nameless_map nameless_bV _) | exact RenV.eq hsl (nameless_roB _)) | (with_reducible exact RenV.sc) | exact RenV.gsN | exact RenV.gsZ | exact RenV.gsL (by decide) | exact RenV.slL (by decide) | ((first | refine RenV.gsE (by (first | exact List.Mem.head _ | exact List.Mem.tail _ (List.Mem.head _) | exact List.Mem.tail _ (List.Mem.tail _ (List.Mem.head _)) | (simp; done))) ?_ | refine RenV.eq (scI_eq ?_) (nameless_sc _)); (first | rfl | omega | (simp only [List.length_append, List.length_cons, List.length_nil, List.length_map, List.length_take, List.length_drop] <;> omega) | (simp only <;> omega) | (simp <;> omega))) | exact RenV.undef) | (with_unfolding_all exact (rfl : (_ : VObj) = _)))))
end Go.Proofs.YtmmjgbdihgdekaaDoor

/- Calls that are given named blocks which stay as they are: what else they made is taken as rows that nobody writes any more. Over any program. -/
namespace Go.Proofs.YtmmjgbdihgdekaaDoor
open Go Go.RowKit
set_option linter.unusedSimpArgs false
set_option linter.unusedVariables false
/-- As Frz, but names below n stand for what they stood for. -/
def FrzB (n : Nat) (K : Heap) (v u : VV) : Prop := ∀ (B w : World) (Z : Nat → Prop) (ρ ρ0 : Nat → Option (Nat × Nat)) (y : Value), Rel B (fun _ => False) Z ρ K w → (∀ b, b < n → ρ0 b = ρ b) → VRel w Z ρ v y → VRel w (fun k => Z k ∨ (B.heap.size ≤ k ∧ k < w.heap.size)) ρ0 u y
theorem Frz.toB {n : Nat} {K : Heap} {v u : VV} (h : Frz K v u) : FrzB n K v u := fun B w Z ρ ρ0 y hr _ hv => h B w Z ρ ρ0 y hr hv
theorem FrzB.sl {n b o m z : Nat} {c : Option Nat} {K : Heap} (hb : b < n) : FrzB n K (.sl b o m c z) (.sl b o m c z) := fun B w Z ρ ρ0 y hr he hv => by
  cases hv with
  | sl hk hn hc hz => exact .sl ((he b hb).trans hk) hn hc hz
theorem FrzB.of {n : Nat} {K : Heap} {v : VV} (h : Nameless v) : FrzB n K v v := (Frz.of h).toB
theorem VCall.trimB {P : Program} {f : FuncId} {args : List VV} {O1 : List (Nat × VObj)} {n1 : Nat} {Q : VV → Heap → Prop} {Q' : VV → Prop}
    (hO : ∀ b x, hget O1 b = some x → ∃ vs, (x = .cells true vs ∨ x = .opt vs) ∧ ∀ v ∈ vs, Nameless v) (h : VCall P f args ⟨O1, n1⟩ Q)
    (hv : ∀ v K, Q v K → (∀ b x, hget O1 b = some x → K.get b = some x) ∧ ∃ u, Q' u ∧ FrzB n1 ⟨restO (O1.map (·.1)) K.objs, K.next⟩ v u) :
    VCall P f args ⟨O1, n1⟩ (fun u K => Q' u ∧ K = ⟨O1, n1⟩) := fun B M Z ρ w ra h1 h2 => by
  refine (h w (Mine ⟨O1, n1⟩ ρ) Z ρ w ra (h1.part rfl fun _ _ h => h) h2).mono ?_
  rintro e w' ⟨v', v, K, Z', ρ', rfl, q, e1, r1, v1⟩
  obtain ⟨hk, u, q', hf⟩ := hv v K q
  have mine : ∀ k, Mine ⟨O1, n1⟩ ρ k → B.heap.size ≤ k ∨ M k := fun k ⟨b, x, N, m1, m2, m3⟩ => by
    obtain ⟨k', N', o, g1, g2, g3, g4, g5⟩ := h1.objK m1 m3
    rw [m3] at g1; injection g1 with g1; injection g1 with g1 g1'; subst g1
    exact g5 m2
  have zz : ∀ k, Z' k → Z k ∨ (w.heap.size ≤ k ∧ k < w'.heap.size) := fun k hk => (e1.znew k hk).imp id fun g => ⟨g, r1.zlt k hk⟩
  have hsz := e1.size
  refine ⟨v', u, ⟨O1, n1⟩, fun k => Z k ∨ (w.heap.size ≤ k ∧ k < w'.heap.size), ρ, rfl, ⟨q', rfl⟩, ⟨Nat.le_refl _, fun _ _ => rfl, fun _ h => .inl h, fun _ _ h => h, e1.keep, e1.size, fun k hk => hk.imp id And.left⟩, ⟨h1.glob, r1.os.trans h1.os, r1.tape.trans h1.tape, r1.output.trans h1.output, Nat.le_trans h1.size r1.size, ?_, h1.dom, h1.live, h1.inj, ?_, ?_⟩, ?_⟩
  · intro k hkb hM
    have hs1 := h1.size
    rw [r1.frame k (by omega) (fun hm => (mine k hm).elim (fun q => by omega) hM)]
    exact h1.frame k hkb hM
  · intro b x hx
    rcases h1.obj b x hx with hg | ⟨k, N, o, g1, g2, g3, g4, g5⟩
    · exact .inl hg
    have hlt := h1.lt hx g1
    obtain ⟨k', N', o', f1, f2, f3, f4, f5⟩ := r1.objK (hk b x hx) (e1.rsub _ _ g1)
    have f0 := e1.rsub _ _ g1
    rw [f0] at f1; injection f1 with f1; injection f1 with f1 f1'; subst f1 f1'
    refine .inr ⟨k, N, o', g1, f2, ?_, fun hz => hz.elim g4 (fun q => by omega), g5⟩
    obtain ⟨vs, hx2, hn⟩ := hO b x hx
    rcases hx2 with rfl | rfl
    · obtain ⟨cs, t, fr, h0, h4, h2, h3⟩ := f3
      exact ⟨cs, t, fr, h0, h4, fun i u hu => let ⟨c, hc, hr⟩ := h2 i u hu; ⟨c, hc, (hn u (List.mem_of_getElem? hu) _ _ _ _ _ hr).zmono zz⟩, h3⟩
    · obtain ⟨cs, t, fr, h0, h4, h2, h3⟩ := f3
      exact ⟨cs, t, fr, h0, h4, fun i u hu => let ⟨c, hc, hr⟩ := h2 i u hu; ⟨c, hc, (hn u (List.mem_of_getElem? hu) _ _ _ _ _ hr).zmono zz⟩, h3⟩
  · intro k hkz
    rcases hkz with hkz | hkz
    · have := h1.zlt k hkz; omega
    · exact hkz.2
  · have hget : ∀ b, (⟨restO (O1.map (·.1)) K.objs, K.next⟩ : Heap).get b = match memN b (O1.map (·.1)) with
      | true => none
      | false => K.get b := fun b => hget_restO _ b _
    have hsub : ∀ b x, (⟨restO (O1.map (·.1)) K.objs, K.next⟩ : Heap).get b = some x → K.get b = some x ∧ memN b (O1.map (·.1)) = false := fun b x hx => by
      rw [hget] at hx
      split at hx
      · cases hx
      · rename_i hm; exact ⟨hx, hm⟩
    have hBs : ({ w' with heap := w'.heap.extract 0 w.heap.size } : World).heap.size = w.heap.size := by
      show (w'.heap.extract 0 w.heap.size).size = _
      rw [Array.size_extract]; omega
    have hBk : ∀ k, k < w.heap.size → ({ w' with heap := w'.heap.extract 0 w.heap.size } : World).heap[k]? = w'.heap[k]? := fun k hk => by
      show (w'.heap.extract 0 w.heap.size)[k]? = _
      rw [Array.getElem?_extract, if_pos (by omega), Nat.zero_add]
    have hr : Rel { w' with heap := w'.heap.extract 0 w.heap.size } (fun _ => False) Z' ρ' ⟨restO (O1.map (·.1)) K.objs, K.next⟩ w' := by
      refine ⟨fun w2 a b c d e => ?_, rfl, rfl, rfl, by rw [hBs]; exact hsz, fun k hk _ => (hBk k (by rw [hBs] at hk; exact hk)).symm, r1.dom, fun b x hx => r1.live b x (hsub b x hx).1, fun b b' k N N' x x' hx hx' => r1.inj b b' k N N' x x' (hsub b x hx).1 (hsub b' x' hx').1, fun b x hx => ?_, r1.zlt⟩
      · refine r1.glob w2 (a.trans r1.os) (b.trans r1.tape) (c.trans r1.output) (by rw [hBs] at d; exact d) fun k hk hm => ?_
        rw [e k (by rw [hBs]; exact hk) id, hBk k hk]
        exact r1.frame k hk hm
      · obtain ⟨hx1, hx2⟩ := hsub b x hx
        rcases r1.obj b x hx1 with hg | ⟨k, N, o, g1, g2, g3, g4, g5⟩
        · exact .inl hg
        refine .inr ⟨k, N, o, g1, g2, g3, g4, fun hrw => .inl ?_⟩
        rw [hBs]
        refine (g5 hrw).resolve_right ?_
        rintro ⟨b0, x0, N0, m1, m2, m3⟩
        have := r1.inj b b0 k N N0 x x0 hx1 (hk b0 x0 m1) g1 (e1.rsub _ _ m3)
        subst this
        have hin : b ∈ O1.map (·.1) := by
          have key : ∀ (l : List (Nat × VObj)), Go.Proofs.YtmmjgbdihgdekaaDoor.hget l b = some x0 → b ∈ l.map (·.1) := by
            intro l
            induction l with
            | nil => intro h; simp [Go.Proofs.YtmmjgbdihgdekaaDoor.hget] at h
            | cons p r ih =>
              obtain ⟨k, y⟩ := p
              intro h
              rw [hget_cons] at h
              split at h
              · rename_i e; subst e; simp
              · exact List.mem_cons_of_mem _ (ih h)
          exact key _ m1
        rw [memN_iff.2 hin] at hx2
        cases hx2
    refine (hf _ w' Z' ρ' ρ v' hr (fun b hb => (e1.rold b hb).symm) v1).zmono fun k hk => ?_
    rcases hk with hk | hk
    · exact zz k hk
    · rw [hBs] at hk; exact .inr hk
/-- A part of a slice of known place. -/
theorem GOp'.slQ {P : Program} {o : Oper} {ts : List VV} {H : Heap} {K : VV → Heap → Prop} {t e : TypeId} {x : Operand} {lo hi : Option Operand} {b q n l h : Nat} (ho : o.op = .slice t x lo hi none) (hu : P.underlying t = some (.slice e)) (hz : vsize P e = some 1) (hx : veval ts x = .sl b q n none 1) (hb : vbounds n n (lo.map (veval ts)) (hi.map (veval ts)) none = some (l, h, none)) (hlh : l ≤ h)
    (k : ∀ u, (u = .sl b (q + l) (h - l) none 1 ∨ (u = .ro 0 [] ∧ l = h ∧ 0 < l)) → K u H) : GOp' P o ts H K := by
  by_cases h0 : l = 0
  · subst h0
    refine GOp'.via (v := .sl b q h none 1) (H' := H) ?_ (k _ (.inl rfl))
    simp only [vop, ho, hx]
    simp [vslice, hu, hz, hb]
    rfl
  · by_cases hl : l = h
    · subst hl
      refine GOp'.via (v := .ro 0 []) (H' := H) ?_ (k _ (.inr ⟨rfl, rfl, by omega⟩))
      simp only [vop, ho, hx]
      simp [vslice, hu, hz, hb, h0]
      rfl
    · refine GOp'.via (v := .sl b (q + l * 1) (h - l) none 1) (H' := H) ?_ (k _ (.inl (by rw [Nat.mul_one])))
      simp only [vop, ho, hx]
      simp [vslice, hu, hz, hb, h0, show ¬ h = l by omega]
      rfl
end Go.Proofs.YtmmjgbdihgdekaaDoor

/- Parts of texts: where one stands, how often, and put in other ones' places, plain; copy into what is left of a row. -/
namespace Go.Proofs.YtmmjgbdihgdekaaDoor
open Go Go.RowKit
set_option linter.unusedSimpArgs false
set_option linter.unusedVariables false
/-- The first place of a part. -/
def idxS (p : List UInt8) : List UInt8 → Option Nat
  | [] => if p.isPrefixOf [] then some 0 else none
  | c :: r => if p.isPrefixOf (c :: r) then some 0 else (idxS p r).map (· + 1)
def idxI (p l : List UInt8) : Int := match idxS p l with
  | none => -1
  | some i => i
theorem idxS_at {p : List UInt8} : ∀ {l : List UInt8} {i : Nat}, idxS p l = some i → l = l.take i ++ p ++ l.drop (i + p.length) ∧ i + p.length ≤ l.length
  | [], i, h => by
    unfold idxS at h
    split at h
    · rename_i hp
      obtain rfl : 0 = i := by simpa using h
      have := List.isPrefixOf_iff_prefix.1 hp
      obtain rfl : p = [] := List.prefix_nil.1 this
      simp
    · cases h
  | c :: r, i, h => by
    unfold idxS at h
    split at h
    · rename_i hp
      obtain rfl : 0 = i := by simpa using h
      obtain ⟨t, e⟩ := List.isPrefixOf_iff_prefix.1 hp
      rw [← e]
      simp
    · cases hr : idxS p r with
      | none => rw [hr] at h; cases h
      | some k =>
        rw [hr] at h
        obtain rfl : k + 1 = i := by simpa using h
        obtain ⟨h1, h2⟩ := idxS_at hr
        refine ⟨?_, by rw [List.length_cons]; omega⟩
        rw [List.take_succ_cons, show k + 1 + p.length = (k + p.length) + 1 by omega, List.drop_succ_cons]
        conv => lhs; rw [h1]
        simp
/-- So often a part stands in a text; it with another one in its places. -/
def cntG (p : List UInt8) : Nat → List UInt8 → Nat
  | 0, _ => 0
  | n + 1, l => match idxS p l with
    | none => 0
    | some i => cntG p n (l.drop (i + p.length)) + 1
def repG (p x : List UInt8) : Nat → List UInt8 → List UInt8
  | 0, l => l
  | n + 1, l => match idxS p l with
    | none => l
    | some i => l.take i ++ x ++ repG p x n (l.drop (i + p.length))
def cntS (p l : List UInt8) : Nat := cntG p (l.length + 1) l
def repS (p x l : List UInt8) : List UInt8 := repG p x (l.length + 1) l
theorem cntG_more {p : List UInt8} (hp : p ≠ []) : ∀ (n m : Nat) (l : List UInt8), l.length < n → l.length < m → cntG p n l = cntG p m l
  | 0, m, l, h, _ => by omega
  | n + 1, 0, l, _, h => by omega
  | n + 1, m + 1, l, h1, h2 => by
    unfold cntG
    cases hi : idxS p l with
    | none => rfl
    | some i =>
      have hl := (idxS_at hi).2
      have hp0 : 0 < p.length := List.length_pos_iff.2 hp
      simp only
      rw [cntG_more hp n m _ (by rw [List.length_drop]; omega) (by rw [List.length_drop]; omega)]
theorem repG_more {p x : List UInt8} (hp : p ≠ []) : ∀ (n m : Nat) (l : List UInt8), l.length < n → l.length < m → repG p x n l = repG p x m l
  | 0, m, l, h, _ => by omega
  | n + 1, 0, l, _, h => by omega
  | n + 1, m + 1, l, h1, h2 => by
    unfold repG
    cases hi : idxS p l with
    | none => rfl
    | some i =>
      have hl := (idxS_at hi).2
      have hp0 : 0 < p.length := List.length_pos_iff.2 hp
      simp only
      rw [repG_more hp n m _ (by rw [List.length_drop]; omega) (by rw [List.length_drop]; omega)]
theorem cntS_next {p l : List UInt8} (hp : p ≠ []) : cntS p l = match idxS p l with
    | none => 0
    | some i => cntS p (l.drop (i + p.length)) + 1 := by
  conv => lhs; unfold cntS cntG
  cases hi : idxS p l with
  | none => rfl
  | some i =>
    have hl := (idxS_at hi).2
    have hp0 : 0 < p.length := List.length_pos_iff.2 hp
    simp only
    unfold cntS
    rw [cntG_more hp l.length _ _ (by rw [List.length_drop]; omega) (Nat.lt_succ_self _)]
theorem repS_next {p x l : List UInt8} (hp : p ≠ []) : repS p x l = match idxS p l with
    | none => l
    | some i => l.take i ++ x ++ repS p x (l.drop (i + p.length)) := by
  conv => lhs; unfold repS repG
  cases hi : idxS p l with
  | none => rfl
  | some i =>
    have hl := (idxS_at hi).2
    have hp0 : 0 < p.length := List.length_pos_iff.2 hp
    simp only
    unfold repS
    rw [repG_more hp l.length _ _ (by rw [List.length_drop]; omega) (Nat.lt_succ_self _)]
theorem repS_len {p x : List UInt8} (hp : p ≠ []) : ∀ (n : Nat) (l : List UInt8), l.length ≤ n → ((repS p x l).length : Int) = (l.length : Int) + (cntS p l : Int) * ((x.length : Int) - (p.length : Int)) := by
  intro n
  induction n with
  | zero =>
    intro l h
    rw [repS_next hp, cntS_next hp]
    cases hi : idxS p l with
    | none => simp
    | some i =>
      have hl := (idxS_at hi).2
      have hp0 : 0 < p.length := List.length_pos_iff.2 hp
      omega
  | succ n ih =>
    intro l h
    rw [repS_next hp, cntS_next hp]
    cases hi : idxS p l with
    | none => simp
    | some i =>
      have hl := (idxS_at hi).2
      have hp0 : 0 < p.length := List.length_pos_iff.2 hp
      have := ih (l.drop (i + p.length)) (by rw [List.length_drop]; omega)
      simp only [List.length_append, List.length_take, Int.natCast_add, this, List.length_drop, Int.add_mul, Int.one_mul]
      have e1 : ((min i l.length : Nat) : Int) = i := by rw [Nat.min_eq_left (by omega)]
      have e2 : ((l.length - (i + p.length) : Nat) : Int) = (l.length : Int) - i - p.length := by omega
      rw [e1, e2]
      generalize (cntS p (List.drop (i + p.length) l) : Int) * ((x.length : Int) - (p.length : Int)) = q
      omega
theorem cntS_le {p : List UInt8} (hp : p ≠ []) : ∀ (n : Nat) (l : List UInt8), l.length ≤ n → cntS p l * p.length ≤ l.length := by
  intro n
  induction n with
  | zero =>
    intro l h
    rw [cntS_next hp]
    cases hi : idxS p l with
    | none => simp
    | some i =>
      have hl := (idxS_at hi).2
      have hp0 : 0 < p.length := List.length_pos_iff.2 hp
      omega
  | succ n ih =>
    intro l h
    rw [cntS_next hp]
    cases hi : idxS p l with
    | none => simp
    | some i =>
      have hl := (idxS_at hi).2
      have hp0 : 0 < p.length := List.length_pos_iff.2 hp
      have := ih (l.drop (i + p.length)) (by rw [List.length_drop]; omega)
      simp only [Nat.add_mul, Nat.one_mul]
      rw [List.length_drop] at this
      omega
theorem GOp'.cp0 {P : Program} {o : Oper} {ts : List VV} {H : Heap} {K : VV → Heap → Prop} {d s : Operand} {t e : TypeId} {m : Nat} {l : List VV} (ho : o.op = .call ⟨.builtin .copy, #[d, s], #[t, t]⟩) (hu : P.underlying t = some (.slice e)) (hz : vsize P e = some 1) (hd : veval ts d = .ro 0 []) (hs : velems 1 (veval ts s) H = some (m, l)) (k : K (iV 0) H) : GOp' P o ts H K := ⟨⟨by
  refine (VOne.does (v := iV 0) (H' := H) (fun c e => by simp [ho] at e) fun B M Z ρ av w hr hav => ?_).mono fun x K' e => by rw [e.1, e.2]; exact k
  have h1 := hd ▸ hav d
  obtain ⟨xs, p1, p2, p3, p4⟩ := velems_sound (P := P) hr (hav s) hs
  have hp : ∃ p c, av d = .slice p 0 c := by
    generalize av d = y at h1
    cases h1 with
    | ro => exact ⟨_, _, rfl⟩
    | ro0 => exact ⟨_, _, rfl⟩
  obtain ⟨p, c, hp⟩ := hp
  refine ⟨.int .i64 0, w, ρ, ?_, Ext.refl _ _ _ _, hr, .sc rfl⟩
  have h4 := p4 0 (Nat.zero_le _) w rfl
  have key : (Builtin.copy_ #[t, t] o.type #[av d, av s]).run P w = .ok (.int .i64 0) w := by
    rw [hp]
    cases p with
    | none => simp [Builtin.copy_, run_underlying hu, run_sizeOf hz, p3, h4, goInt]
    | some a => simp [Builtin.copy_, run_underlying hu, run_sizeOf hz, p3, h4, goInt, storeCells]
  simp [execOp, ho, resolve, invoke, builtin, key]⟩⟩
theorem hset_same : ∀ (O : List (Nat × VObj)) (b : Nat) (x : VObj), hget O b = some x → hset O b x = O
  | [], b, x, h => by simp [hget] at h
  | (k, o) :: r, b, x, h => by
    rw [hget_cons] at h
    rcases beq_cases k b with ⟨h1, e⟩ | ⟨h1, e⟩
    · rw [if_pos e] at h
      injection h with h
      subst h
      simp only [hset, h1]
    · rw [if_neg e] at h
      simp only [hset, h1, hset_same r b x h]
/-- What is left of a row, from a place on. -/
def RestV (b w n : Nat) (u : VV) : Prop := (w < n ∧ u = .sl b w (n - w) none 1) ∨ (w = n ∧ (u = .ro 0 [] ∨ u = .sl b w 0 none 1))
theorem GOp'.slR {P : Program} {o : Oper} {ts : List VV} {H : Heap} {K : VV → Heap → Prop} {t e : TypeId} {x lo : Operand} {b n w : Nat} {z : Int} {k : IntKind} (ho : o.op = .slice t x (some lo) none none) (hu : P.underlying t = some (.slice e)) (hz : vsize P e = some 1) (hx : veval ts x = .sl b 0 n none 1) (hl : veval ts lo = .sc (.int k z)) (hw : z = (w : Int)) (hwn : w ≤ n) (k : ∀ u, RestV b w n u → K u H) : GOp' P o ts H K := by
  refine GOp'.slQ (q := 0) (l := w) (h := n) ho hu hz hx ?_ hwn fun u hh => k u ?_
  · show vbounds n n (some (veval ts lo)) none none = _
    rw [hl, vb_l ⟨by omega, by omega⟩, hw, Int.toNat_natCast]
  · rw [Nat.zero_add] at hh
    rcases hh with rfl | ⟨rfl, e, _⟩
    · by_cases h : w < n
      · exact .inl ⟨h, rfl⟩
      · obtain rfl : w = n := by omega
        rw [Nat.sub_self]
        exact .inr ⟨rfl, .inr rfl⟩
    · exact .inr ⟨e, .inl rfl⟩
/-- Bytes, written into what is left of a row. -/
theorem GOp'.cpB {P : Program} {o : Oper} {ts : List VV} {H : Heap} {K : VV → Heap → Prop} {d s : Operand} {t e : TypeId} {u : VV} {b w n m : Nat} {x done : List UInt8} {rest : List VV} {l : List VV} (ho : o.op = .call ⟨.builtin .copy, #[d, s], #[t, t]⟩) (hu : P.underlying t = some (.slice e)) (hz : vsize P e = some 1) (hd : veval ts d = u) (hr : RestV b w n u) (hs : velems 1 (veval ts s) H = some (m, l)) (hm : m = x.length) (hl : l = x.map bV)
    (hg : H.get b = some (.cells true (done.map bV ++ rest))) (hdn : done.length = w) (hn : done.length + rest.length = n) (hx : w + x.length ≤ n) (k : K (iV x.length) (H.set b (.cells true ((done ++ x).map bV ++ rest.drop x.length)))) : GOp' P o ts H K := by
  subst hm hl hdn
  have hones : (x.map bV).all VV.one = true := by simp [bV, VV.one]
  have full : ∀ q, q = n - done.length → veval ts d = .sl b done.length q none 1 → GOp' P o ts H K := fun q hq hd => by
    refine GOp'.via (v := iV x.length) (H' := H.set b (.cells true ((done ++ x).map bV ++ rest.drop x.length))) ?_ k
    have e1 : Nat.min x.length q = x.length := Nat.min_eq_left (by omega)
    have e2 : ((x.map bV).take (x.length * 1)) = x.map bV := List.take_of_length_le (by simp)
    have e3 : done.length + (x.map bV).length ≤ (done.map bV ++ rest).length := by simp; omega
    have e4 : setRun (done.map bV ++ rest) done.length (x.map bV) = (done ++ x).map bV ++ rest.drop x.length := by
      rw [setRun_eq _ _ _ e3]
      have hdl : (done.map bV).length = done.length := List.length_map _
      rw [List.take_append_of_le_length (by simp), List.take_of_length_le (by simp), List.map_append, ← hdl, List.drop_length_add_append, List.length_map]
    simp only [vop, ho]
    simp only [vcopy, hu, hz, hs, hd, hg, hones, e1, e2, if_pos e3, e4]
    rfl
  rcases hr with ⟨h, rfl⟩ | ⟨h, rfl | rfl⟩
  · exact full _ rfl hd
  · have h0 : x = [] := List.eq_nil_of_length_eq_zero (by omega)
    subst h0
    refine GOp'.cp0 ho hu hz hd hs ?_
    have e : H.set b (.cells true ((done ++ []).map bV ++ rest.drop ([] : List UInt8).length)) = H := by
      rw [List.append_nil]
      show H.set b (.cells true (done.map bV ++ rest)) = H
      obtain ⟨O, nx⟩ := H
      show Heap.mk (hset O b (.cells true (done.map bV ++ rest))) nx = _
      rw [hset_same O b _ hg]
    rw [e] at k
    exact k
  · exact full 0 (by omega) hd
end Go.Proofs.YtmmjgbdihgdekaaDoor

/- percent: a text, encoded for a part (the program's), walked. -/
namespace Go.Proofs.YtmmjgbdihgdekaaDoor
open Go Go.RowKit
set_option linter.unusedSimpArgs false
set_option linter.unusedVariables false
set_option maxRecDepth 100000
set_option maxHeartbeats 4000000
def digT : List UInt8 := [48, 49, 50, 51, 52, 53, 54, 55, 56, 57, 65, 66, 67, 68, 69, 70]
def hexD (n : Nat) : UInt8 := digT.getD n 0
end Go.Proofs.YtmmjgbdihgdekaaDoor

/- pairs, plain: a part, coded and told. -/
namespace Go.Proofs.YtmmjgbdihgdekaaDoor
open Go Go.RowKit
set_option linter.unusedSimpArgs false
set_option linter.unusedVariables false
theorem idxS_ne {p : List UInt8} {c : UInt8} {r : List UInt8} (h : p.isPrefixOf (c :: r) = false) : idxS p (c :: r) = (idxS p r).map (· + 1) := by
  conv => lhs; unfold idxS
  rw [h, if_neg (by simp)]
theorem repS_ne {p x : List UInt8} {c : UInt8} {r : List UInt8} (hp : p ≠ []) (h : p.isPrefixOf (c :: r) = false) : repS p x (c :: r) = c :: repS p x r := by
  rw [repS_next hp, repS_next (l := r) hp, idxS_ne h]
  cases hi : idxS p r with
  | none => rfl
  | some i =>
    simp only [Option.map_some]
    rw [show i + 1 + p.length = (i + p.length) + 1 by omega, List.drop_succ_cons, List.take_succ_cons]
    rfl
theorem repS_hit {p x : List UInt8} {r : List UInt8} (hp : p ≠ []) : repS p x (p ++ r) = x ++ repS p x r := by
  have hi : idxS p (p ++ r) = some 0 := by
    have h1 : p.isPrefixOf (p ++ r) = true := List.isPrefixOf_iff_prefix.2 ⟨r, rfl⟩
    cases h : p ++ r with
    | nil => exact absurd (List.append_eq_nil_iff.1 h).1 hp
    | cons a t =>
      rw [h] at h1
      unfold idxS
      rw [if_pos h1]
  rw [repS_next hp, hi]
  simp
theorem repS_nil {p x : List UInt8} (hp : p ≠ []) : repS p x [] = [] := by
  rw [repS_next hp]
  have : idxS p [] = none := by
    unfold idxS
    rw [if_neg (by cases p with
      | nil => exact absurd rfl hp
      | cons a t => simp [List.isPrefixOf])]
  rw [this]
/-- One byte in another one's place. -/
def subB (a b : UInt8) (l : List UInt8) : List UInt8 := l.map fun x => if x = a then b else x
theorem repS_one (a b : UInt8) : ∀ l : List UInt8, repS [a] [b] l = subB a b l
  | [] => repS_nil (by simp)
  | c :: r => by
    by_cases h : c = a
    · subst h
      have := repS_hit (p := [c]) (x := [b]) (r := r) (by simp)
      rw [List.singleton_append, List.singleton_append] at this
      rw [this, repS_one c b r]
      simp [subB]
    · rw [repS_ne (by simp) (by simp [List.isPrefixOf]; exact fun e => h e.symm), repS_one a b r]
      simp [subB, h]
/-- What a part says; none: it is of no form. -/
def plainB (l : List UInt8) : Option (List UInt8) := dcB (subB 43 32 l)
end Go.Proofs.YtmmjgbdihgdekaaDoor

