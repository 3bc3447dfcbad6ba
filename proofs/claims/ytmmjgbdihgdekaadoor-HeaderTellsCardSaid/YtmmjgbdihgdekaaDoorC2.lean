/- IndexByte, Index, Cut, At. -/
import Derived.Test.YtmmjgbdihgdekaaDoorVd
namespace Go.Proofs.YtmmjgbdihgdekaaDoor
open Go Go.RowKit
set_option linter.unusedSimpArgs false
set_option linter.unusedVariables false
set_option maxRecDepth 100000
set_option maxHeartbeats 4000000
/-- The first place of a byte; -1: none. -/
def idxB (l : List UInt8) (b : UInt8) : Int := if l.contains b then (l.idxOf b : Int) else -1
theorem find_range {p : Nat → Bool} {q : UInt8 → Bool} : ∀ (l : List UInt8) (k : Nat), (∀ i (h : i < l.length), p (k + i) = q l[i]) → (List.range' k l.length).find? p = (l.findIdx? q).map (k + ·)
  | [], k, _ => rfl
  | a :: r, k, h => by
    have h0 := h 0 (by simp)
    simp only [Nat.add_zero, List.getElem_cons_zero] at h0
    have ih := find_range (p := p) (q := q) r (k + 1) (fun i hi => by
      have := h (i + 1) (by simpa using hi)
      rw [show k + 1 + i = k + (i + 1) by omega, this]
      rfl)
    rw [List.length_cons, List.range'_succ, List.find?_cons, List.findIdx?_cons, h0, ih]
    cases q a
    · simp only [Bool.false_eq_true, if_false]
      cases r.findIdx? q
      · rfl
      · simp only [Option.map_some]; congr 1; omega
    · simp
theorem find_idx (l : List UInt8) (b : UInt8) : (match (List.range (⟨l.toArray⟩ : ByteArray).size).find? (fun i => (⟨l.toArray⟩ : ByteArray)[i]! == b) with | some i => (i : Int) | none => -1) = idxB l b := by
  have h := find_range (p := fun i => (⟨l.toArray⟩ : ByteArray)[i]! == b) (q := fun x => x == b) l 0 (fun i hi => by
    have : (⟨l.toArray⟩ : ByteArray)[i]! = l[i] := by
      rw [getElem!_pos (⟨l.toArray⟩ : ByteArray) i (by exact hi)]
      rfl
    simp only [Nat.zero_add, this])
  rw [str_size, List.range_eq_range', h]
  unfold idxB
  by_cases hb : l.contains b = true
  · rw [if_pos hb]
    have : l.findIdx? (fun x => x == b) = some (l.idxOf b) := by
      rw [List.findIdx?_eq_some_iff_findIdx_eq]
      refine ⟨?_, rfl⟩
      exact List.findIdx_lt_length_of_exists ⟨b, by simpa using hb, by simp⟩
    rw [this]
    simp
  · rw [if_neg hb]
    have : l.findIdx? (fun x => x == b) = none := by
      rw [List.findIdx?_eq_none_iff]
      intro x hx
      simp only [beq_eq_false_iff_ne, ne_eq]
      rintro rfl
      exact hb (by simpa using hx)
    rw [this]
    rfl
theorem argB_roB (l : List UInt8) (H : Heap) : argB H (roB l) = some (.string ⟨l.toArray⟩) := by
  simp only [argB, roB, velems, List.length_map, Nat.mul_one, if_true, vbytes_map]
theorem ext_index (l : List UInt8) (b : UInt8) (H : Heap) : vextern Tryd.prog 164 [roB l, bV b] H = some (iV (idxB l b)) := by
  have hf := Tryd.func164
  have hr : extRow Tryd.f164.name = some Extern.BytealgIndexByte.indexByte := by kernel_rfl
  have hb : Tryd.f164.body = none := rfl
  have ho : Tryd.f164.origin = "" := rfl
  have hp : pureRun Tryd.prog (Extern.BytealgIndexByte.indexByte #[.string ⟨l.toArray⟩, .int .u8 (b.toNat : Int)]) = some (.int .i64 (idxB l b)) := by
    rw [← find_idx, ib_eq]
    have e1 : Extern.Bytes.bytesOf (.string ⟨l.toArray⟩) = pure ⟨l.toArray⟩ := rfl
    have e2 : Extern.Bytes.asByte (.int .u8 (b.toNat : Int)) = pure b := by
      show (pure ((b.toNat : Int).toNat.toUInt8) : Sem UInt8) = pure b
      congr 1
      simp
    rw [e1, e2]
    show pureRun Tryd.prog (match (List.range (⟨l.toArray⟩ : ByteArray).size).find? (fun i => (⟨l.toArray⟩ : ByteArray)[i]! == b) with
      | some i => pure (goInt i)
      | none => pure (goInt (-1))) = _
    cases (List.range (⟨l.toArray⟩ : ByteArray).size).find? (fun i => (⟨l.toArray⟩ : ByteArray)[i]! == b) <;> rfl
  simp only [vextern, hf, hb, ho, if_true, hr, bV, argB_roB]
  rw [hp]
  rfl
theorem idxB_range (l : List UInt8) (b : UInt8) : -1 ≤ idxB l b ∧ idxB l b < l.length := by
  unfold idxB
  by_cases hb : l.contains b = true
  · rw [if_pos hb]
    have := List.idxOf_lt_length_of_mem (a := b) (l := l) (by simpa using hb)
    omega
  · rw [if_neg hb]
    omega
theorem indexByte_call (l : List UInt8) (b : UInt8) (H : Heap) : VCall Tryd.prog 133 [roB l, bV b] H (fun x K => x = iV (idxB l b) ∧ K = H) := by
  refine VCall.go Tryd.func133 rfl ?_
  repeat' (first | with_reducible refine And.intro ?_ ?_ | ((with_reducible intro hc); (try simp only [zA, zB, zC, zD, zE, zF, zG, zH, zI, zJ, zK, zL, zM, zN, zO, zP, zQ, zR, zS, zT, zU, zV, zW] at hc); (first | (exact absurd rfl hc) | (exact absurd trivial hc) | (exfalso; omega) | skip)) | ((conv => whnf); first | with_reducible refine And.intro ?_ ?_ | refine ifB_intro ?_ ?_ | refine xA (by omega) ?_ | ((refine xB ?_); intro kw hk1 hk2) | refine xC (by omega) ?_ | refine xD ?_ | refine xE (by omega) ?_ | refine xF (by omega) ?_ | refine xG ?_ | refine xH ?_ | refine xI (by omega) ?_ | refine xJ (by omega) ?_ | (with_reducible refine stopA ?_) | refine Exists.intro _ (And.intro (by rfl) ?_) | refine GOp.via (by rfl) ?_ | (with_reducible first | refine stopO ?_ | refine stopE ?_ | refine stopD ?_ | refine stopW ?_ | refine stopG ?_ | refine stopC ?_ | refine stopR ?_)))
  refine GExt'.via (ext_index l b H) ?_
  repeat' (first | with_reducible refine And.intro ?_ ?_ | ((with_reducible intro hc); (try simp only [zA, zB, zC, zD, zE, zF, zG, zH, zI, zJ, zK, zL, zM, zN, zO, zP, zQ, zR, zS, zT, zU, zV, zW] at hc); (first | (exact absurd rfl hc) | (exact absurd trivial hc) | (exfalso; omega) | skip)) | ((conv => whnf); first | with_reducible refine And.intro ?_ ?_ | refine ifB_intro ?_ ?_ | refine xA (by omega) ?_ | ((refine xB ?_); intro kw hk1 hk2) | refine xC (by omega) ?_ | refine xD ?_ | refine xE (by omega) ?_ | refine xF (by omega) ?_ | refine xG ?_ | refine xH ?_ | refine xI (by omega) ?_ | refine xJ (by omega) ?_ | (with_reducible refine stopA ?_) | refine Exists.intro _ (And.intro (by rfl) ?_) | refine GOp.via (by rfl) ?_ | (with_reducible first | refine stopO ?_ | refine stopE ?_ | refine stopD ?_ | refine stopW ?_ | refine stopG ?_ | refine stopC ?_ | refine stopR ?_)))
  exact Done'.mk ⟨rfl, rfl⟩
/-- A heap with one byte in it. -/
def H1 (b : UInt8) : Heap := ⟨[(0, .cells true [bV b])], 1⟩
theorem index_call (l : List UInt8) (b : UInt8) : VCall Tryd.prog 149 [roB l, .sl 0 0 1 (some 1) 1] (H1 b) (fun x K => x = iV (idxB l b) ∧ K = H1 b) := by
  refine VCall.go Tryd.func149 rfl ?_
  repeat' (first | with_reducible refine And.intro ?_ ?_ | ((with_reducible intro hc); (try simp only [zA, zB, zC, zD, zE, zF, zG, zH, zI, zJ, zK, zL, zM, zN, zO, zP, zQ, zR, zS, zT, zU, zV, zW] at hc); (first | (exact absurd rfl hc) | (exact absurd trivial hc) | (exfalso; omega) | skip)) | ((conv => whnf); first | with_reducible refine And.intro ?_ ?_ | refine ifB_intro ?_ ?_ | refine xA (by omega) ?_ | ((refine xB ?_); intro kw hk1 hk2) | refine xC (by omega) ?_ | refine xD ?_ | refine xE (by omega) ?_ | refine xF (by omega) ?_ | refine xG ?_ | refine xH ?_ | refine xI (by omega) ?_ | refine xJ (by omega) ?_ | (with_reducible refine stopA ?_) | refine Exists.intro _ (And.intro (by rfl) ?_) | refine GOp.via (by rfl) ?_ | (with_reducible first | refine stopO ?_ | refine stopE ?_ | refine stopD ?_ | refine stopW ?_ | refine stopG ?_) | (refine GCall.mk ((indexByte_call l b _).mono ?_); rintro _ _ ⟨rfl, rfl⟩) | (with_reducible refine stopC ?_) | (with_reducible refine stopR ?_)))
  all_goals (first | omega | exact Done'.mk ⟨rfl, rfl⟩)
end Go.Proofs.YtmmjgbdihgdekaaDoor
