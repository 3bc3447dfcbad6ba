import Derived.Test.YtmmjgbdihgdekaaDoorI7
/- The document's value of two hexadecimal signs, walked. -/
namespace Go.Proofs.YtmmjgbdihgdekaaDoor
open Go Go.RowKit
set_option linter.unusedSimpArgs false
set_option linter.unusedVariables false
set_option maxRecDepth 100000
set_option maxHeartbeats 16000000
end Go.Proofs.YtmmjgbdihgdekaaDoor

/- What the document's plain tells, in plain words. -/
namespace Go.Proofs.YtmmjgbdihgdekaaDoor
open Go Go.RowKit
set_option linter.unusedSimpArgs false
set_option linter.unusedVariables false
/-- The document's items: bytes, and whether they were coded. -/
def itB : List UInt8 → Option (List (UInt8 × Bool))
  | [] => some []
  | [c] => if c ≠ 37 then some [(c, false)] else none
  | [c, d] => if c ≠ 37 then (itB [d]).map ((c, false) :: ·) else none
  | c :: a :: b :: r => if c ≠ 37 then (itB (a :: b :: r)).map ((c, false) :: ·) else if hexN a < 16 ∧ hexN b < 16 then (itB r).map ((UInt8.ofNat (hexN a * 16 + hexN b), true) :: ·) else none
def fixI (x : UInt8 × Bool) : UInt8 := if x.1 = 43 ∧ x.2 = false then 32 else x.1
def s43 (c : UInt8) : UInt8 := if c = 43 then 32 else c
theorem hexN_s43 : ∀ k : Fin 256, hexN (s43 (UInt8.ofNat k.val)) = hexN (UInt8.ofNat k.val) := by decide +kernel
theorem hexN_s (c : UInt8) : hexN (s43 c) = hexN c := by
  have h := hexN_s43 ⟨c.toNat, c.toNat_lt⟩
  simpa using h
theorem s43_37 (c : UInt8) : s43 c = 37 ↔ c = 37 := by
  unfold s43
  split
  · rename_i h; subst h; decide
  · exact Iff.rfl
theorem map_fix (c : UInt8) (x : Option (List (UInt8 × Bool))) : (x.map ((c, false) :: ·)).map (·.map fixI) = (x.map (·.map fixI)).map (s43 c :: ·) := by
  cases x <;> simp [fixI, s43]
theorem map_fixT (c : UInt8) (x : Option (List (UInt8 × Bool))) : (x.map ((c, true) :: ·)).map (·.map fixI) = (x.map (·.map fixI)).map (c :: ·) := by
  cases x <;> simp [fixI]
theorem items_dc : ∀ l : List UInt8, (itB l).map (·.map fixI) = dcB (l.map s43)
  | [] => rfl
  | [c] => by
    rw [itB, dcB_next (by simp)]
    by_cases h : c = 37
    · subst h; simp [rdB, s43]
    · have : s43 c ≠ 37 := fun e => h ((s43_37 c).1 e)
      rw [if_pos h]
      simp only [List.map_cons, List.map_nil, rdB_plain _ this]
      have e : dcB [] = some [] := rfl
      rw [e]
      simp [fixI, s43]
  | [c, d] => by
    have ih := items_dc [d]
    rw [itB, dcB_next (by simp)]
    by_cases h : c = 37
    · subst h; simp [rdB, s43]
    · have : s43 c ≠ 37 := fun e => h ((s43_37 c).1 e)
      rw [if_pos h, map_fix, ih]
      simp only [List.map_cons, List.map_nil, rdB_plain _ this]
  | c :: a :: b :: r => by
    have ih := items_dc (a :: b :: r)
    have ih2 := items_dc r
    rw [itB, dcB_next (by simp)]
    by_cases h : c = 37
    · subst h
      rw [if_neg (by simp)]
      have e : s43 37 = 37 := by decide
      simp only [List.map_cons, e, rdB_hex, hexN_s]
      split
      · rw [map_fixT, ih2]
      · rfl
    · have : s43 c ≠ 37 := fun e => h ((s43_37 c).1 e)
      rw [if_pos h, map_fix, ih]
      simp only [List.map_cons, rdB_plain _ this]
theorem plain_items (l : List UInt8) : (itB l).map (·.map fixI) = plainB l := items_dc l
end Go.Proofs.YtmmjgbdihgdekaaDoor

/- The document's Split, Items and plain, walked. -/
namespace Go.Proofs.YtmmjgbdihgdekaaDoor
open Go Go.RowKit
set_option linter.unusedSimpArgs false
set_option linter.unusedVariables false
set_option maxRecDepth 100000
set_option maxHeartbeats 16000000
theorem itB_plain {c : UInt8} (h : c ≠ 37) : ∀ r, itB (c :: r) = (itB r).map ((c, false) :: ·)
  | [] => by
    have e : itB [c] = if c ≠ 37 then some [(c, false)] else none := by rw [itB]
    rw [e, if_pos h]
    rfl
  | [d] => by
    have e : itB [c, d] = if c ≠ 37 then (itB [d]).map ((c, false) :: ·) else none := by conv => lhs; unfold itB
    rw [e, if_pos h]
  | a :: b :: r => by rw [itB, if_pos h]
theorem itB_hex (a b : UInt8) (r : List UInt8) : itB (37 :: a :: b :: r) = if hexN a < 16 ∧ hexN b < 16 then (itB r).map ((UInt8.ofNat (hexN a * 16 + hexN b), true) :: ·) else none := by
  rw [itB, if_neg (by simp)]
end Go.Proofs.YtmmjgbdihgdekaaDoor

/- The document's plain and Parse, walked. -/
namespace Go.Proofs.YtmmjgbdihgdekaaDoor
open Go Go.RowKit
set_option linter.unusedSimpArgs false
set_option linter.unusedVariables false
set_option maxRecDepth 100000
set_option maxHeartbeats 16000000
end Go.Proofs.YtmmjgbdihgdekaaDoor

/- The document's Parse, walked. -/
namespace Go.Proofs.YtmmjgbdihgdekaaDoor
open Go Go.RowKit
set_option linter.unusedSimpArgs false
set_option linter.unusedVariables false
set_option maxRecDepth 100000
set_option maxHeartbeats 16000000
end Go.Proofs.YtmmjgbdihgdekaaDoor

