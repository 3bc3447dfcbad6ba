/- Plain facts on texts and numbers for the operators on values; no program in sight. -/
import Derived.Test.YtnpgeklpkmkjeaaDoorRows
import Derived.WalkKit
import Derived.WalkLawsBesides
namespace Go.Proofs.YtnpgeklpkmkjeaaDoor
open Go.RowKit
set_option linter.unusedSimpArgs false
set_option linter.unusedVariables false

theorem tl_data (s : ByteArray) : s.toList = s.data.toList := ByteArray.toList_eq s
theorem tl_len (s : ByteArray) : s.toList.length = s.size := by rw [tl_data]; rfl
theorem tl_pos (s : ByteArray) : (!s.toList.isEmpty) = decide (0 < s.size) := by
  rw [← tl_len]; cases s.toList <;> simp
theorem tl_nil : (⟨#[]⟩ : ByteArray).toList = [] := by rw [tl_data]
theorem tl_inj {a b : ByteArray} (h : a.toList = b.toList) : a = b := by
  rw [tl_data, tl_data] at h
  cases a with | mk x => cases b with | mk y => simp at h; rw [h]

theorem bl_irrefl (l : List UInt8) : Op.bytesLess l l = false := by
  induction l with
  | nil => rfl
  | cons a x ih => simp [Op.bytesLess, ih]
theorem bl_asymm : ∀ (a b : List UInt8), Op.bytesLess a b = true → Op.bytesLess b a = false
  | [], [], h => by simp [Op.bytesLess] at h
  | [], b :: y, _ => by simp [Op.bytesLess]
  | a :: x, [], h => by simp [Op.bytesLess] at h
  | a :: x, b :: y, h => by
    simp only [Op.bytesLess, Bool.or_eq_true, decide_eq_true_eq, Bool.and_eq_true, beq_iff_eq, Bool.or_eq_false_iff, decide_eq_false_iff_not, Bool.and_eq_false_iff] at h ⊢
    rcases h with h | ⟨rfl, h⟩
    · refine ⟨fun h' => ?_, .inl ?_⟩
      · exact absurd (UInt8.lt_trans h h') (UInt8.lt_irrefl _)
      · exact beq_eq_false_iff_ne.2 (fun e => by subst e; exact UInt8.lt_irrefl _ h)
    · exact ⟨UInt8.lt_irrefl _, .inr (bl_asymm x y h)⟩
theorem bl_total : ∀ (a b : List UInt8), Op.bytesLess a b = false → Op.bytesLess b a = false → a = b
  | [], [], _, _ => rfl
  | [], b :: y, h, _ => by simp [Op.bytesLess] at h
  | a :: x, [], _, h => by simp [Op.bytesLess] at h
  | a :: x, b :: y, h, k => by
    simp only [Op.bytesLess, Bool.or_eq_false_iff, decide_eq_false_iff_not, Bool.and_eq_false_iff] at h k
    have e : a = b := UInt8.le_antisymm (UInt8.not_lt.1 k.1) (UInt8.not_lt.1 h.1)
    subst e
    simp at h k
    rw [bl_total x y h k]

def tr (k n : Int) (s : ByteArray) : Bool := k == 3 || n != 0 || !s.toList.isEmpty
def b2i (b : Bool) : Int := if b then 1 else 0
def cmpI (a b : Int) : Int := if a < b then -1 else if b < a then 1 else 0
def cmpS (a b : ByteArray) : Int := if Op.bytesLess a.toList b.toList then -1 else if a.toList == b.toList then 0 else 1
/-- The values that the package makes. -/
def VOk (k n : Int) (s : ByteArray) : Prop :=
  (k = 0 ∧ n = 0 ∧ s = ⟨#[]⟩) ∨ (k = 1 ∧ -2147483648 ≤ n ∧ n ≤ 2147483648 ∧ s = ⟨#[]⟩) ∨ (k = 2 ∧ n = 0 ∧ s.size ≤ 4096) ∨ (k = 3 ∧ 0 ≤ n ∧ s = ⟨#[]⟩)
theorem cmpS_self (a : ByteArray) : cmpS a a = 0 := by simp [cmpS, bl_irrefl]
theorem cmpI_self (a : Int) : cmpI a a = 0 := by simp [cmpI]
theorem cmpS_lt (a b : ByteArray) : decide (cmpS a b < 0) = Op.bytesLess a.toList b.toList := by
  unfold cmpS; cases h : Op.bytesLess a.toList b.toList <;> simp; split <;> omega
theorem cmpS_gt (a b : ByteArray) : decide (0 < cmpS a b) = Op.bytesLess b.toList a.toList := by
  unfold cmpS
  cases h : Op.bytesLess a.toList b.toList
  · by_cases e : a.toList = b.toList
    · simp [e, bl_irrefl]
    · cases h2 : Op.bytesLess b.toList a.toList
      · exact absurd (bl_total _ _ h h2) e
      · simp [e]
  · simp [bl_asymm _ _ h]
end Go.Proofs.YtnpgeklpkmkjeaaDoor
