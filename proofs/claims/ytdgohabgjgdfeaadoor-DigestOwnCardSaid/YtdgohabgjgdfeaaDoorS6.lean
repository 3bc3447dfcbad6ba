/- Blocks one behind the other: plain laws of the sum. -/
import Derived.Test.YtdgohabgjgdfeaaDoorS1
namespace Go.Proofs.YtdgohabgjgdfeaaDoor
open Go Go.RowKit
set_option linter.unusedSimpArgs false
set_option linter.unusedVariables false
theorem blks_small {n : Nat} {s : S8} {m : List UInt8} (h : m.length < 64) : blks n s m = (s, m) := by
  cases n with
  | zero => rfl
  | succ n => simp only [blks]; rw [if_neg (by omega)]
theorem blks_more : ∀ (n : Nat) (s : S8) (m : List UInt8), m.length < 64 * n + 64 → ∀ k, blks (n + k) s m = blks n s m
  | 0, s, m, h, k => by rw [blks_small (by omega), blks_small (by omega)]
  | n + 1, s, m, h, k => by
    rw [show n + 1 + k = (n + k) + 1 by omega]
    simp only [blks]
    split
    · exact blks_more n _ _ (by simp; omega) k
    · rfl
def blkF (s : S8) (m : List UInt8) : S8 × List UInt8 := blks (m.length + 1) s m
theorem blkF_of {n : Nat} {s : S8} {m : List UInt8} (h : m.length < 64 * n + 64) : blks n s m = blkF s m := by
  unfold blkF
  rw [← blks_more n s m h (m.length + 1), Nat.add_comm, blks_more (m.length + 1) s m (by omega)]
theorem blkF_step {s : S8} {m : List UInt8} (h : 64 ≤ m.length) : blkF s m = blkF (compr s (m.take 64)) (m.drop 64) := by
  have e : blkF s m = (if 64 ≤ m.length then blks m.length (compr s (m.take 64)) (m.drop 64) else (s, m)) := rfl
  rw [e, if_pos h]
  exact blkF_of (by simp; omega)
theorem blkF_end {s : S8} {m : List UInt8} (h : m.length < 64) : blkF s m = (s, m) := blks_small h
theorem compr_ok (s : S8) (p : List UInt8) : (compr s p).ok := S8.add_ok _ _
theorem blkF_ok {s : S8} (hs : s.ok) (m : List UInt8) : (blkF s m).1.ok := by
  have key : ∀ (n : Nat) (s : S8) (m : List UInt8), s.ok → (blks n s m).1.ok := by
    intro n
    induction n with
    | zero => intro s m h; exact h
    | succ n ih =>
      intro s m h
      simp only [blks]
      split
      · exact ih _ _ (compr_ok _ _)
      · exact h
  exact key _ _ _ hs
theorem blkF_len (s : S8) (m : List UInt8) : (blkF s m).2.length = m.length % 64 := by
  have key : ∀ (n : Nat) (s : S8) (m : List UInt8), m.length < 64 * n + 64 → (blks n s m).2.length = m.length % 64 := by
    intro n
    induction n with
    | zero => intro s m h; show m.length = _; omega
    | succ n ih =>
      intro s m h
      simp only [blks]
      split
      · rw [ih _ _ (by simp; omega)]
        simp
        omega
      · show m.length = _; omega
  exact key _ _ _ (by omega)
theorem blkF_app (s : S8) (m l : List UInt8) : blkF s (m ++ l) = blkF (blkF s m).1 ((blkF s m).2 ++ l) := by
  have key : ∀ (n : Nat) (s : S8) (m : List UInt8), m.length < 64 * n + 64 → blkF s (m ++ l) = blkF (blkF s m).1 ((blkF s m).2 ++ l) := by
    intro n
    induction n with
    | zero => intro s m h; rw [blkF_end (show m.length < 64 by omega)]
    | succ n ih =>
      intro s m h
      by_cases h2 : 64 ≤ m.length
      · rw [blkF_step h2, blkF_step (m := m ++ l) (by simp; omega), List.take_append_of_le_length h2, List.drop_append_of_le_length h2]
        exact ih _ _ (by simp; omega)
      · rw [blkF_end (show m.length < 64 by omega)]
  exact key m.length s m (by omega)
/-- The state behind so many bytes. -/
def stF (m : List UInt8) : S8 × List UInt8 := blkF h0T m
theorem stF_app (m l : List UInt8) : blkF (stF m).1 ((stF m).2 ++ l) = stF (m ++ l) := (blkF_app h0T m l).symm
theorem h0T_ok : h0T.ok := ⟨by decide, by decide, by decide, by decide, by decide, by decide, by decide, by decide⟩
theorem stF_ok (m : List UInt8) : (stF m).1.ok := blkF_ok h0T_ok m
theorem stF_len (m : List UInt8) : (stF m).2.length = m.length % 64 := blkF_len _ _
theorem stF_nil : stF [] = (h0T, []) := rfl
theorem padT_len (n : Nat) : (padT n).length = 9 + (119 - n % 64) % 64 := by
  unfold padT be8
  simp
  omega
theorem sha_eq (m : List UInt8) : sha m = (stF (m ++ padT m.length)).1.bytes := by
  unfold sha stF
  rw [blkF_of]
  have := padT_len m.length
  simp only [List.length_append]
  omega
theorem sha_len (m : List UInt8) : (sha m).length = 32 := by unfold sha S8.bytes w4; simp
theorem bytes_at (s : S8) {i : Nat} (h : i < 32) : s.bytes[i]? = some (UInt8.ofNat (s.list.getD (i / 4) 0 / 2 ^ (24 - 8 * (i % 4)))) := by
  have : i = 0 ∨ i = 1 ∨ i = 2 ∨ i = 3 ∨ i = 4 ∨ i = 5 ∨ i = 6 ∨ i = 7 ∨ i = 8 ∨ i = 9 ∨ i = 10 ∨ i = 11 ∨ i = 12 ∨ i = 13 ∨ i = 14 ∨ i = 15 ∨ i = 16 ∨ i = 17 ∨ i = 18 ∨ i = 19 ∨ i = 20 ∨ i = 21 ∨ i = 22 ∨ i = 23 ∨ i = 24 ∨ i = 25 ∨ i = 26 ∨ i = 27 ∨ i = 28 ∨ i = 29 ∨ i = 30 ∨ i = 31 := by omega
  rcases this with rfl | rfl | rfl | rfl | rfl | rfl | rfl | rfl | rfl | rfl | rfl | rfl | rfl | rfl | rfl | rfl | rfl | rfl | rfl | rfl | rfl | rfl | rfl | rfl | rfl | rfl | rfl | rfl | rfl | rfl | rfl | rfl
  all_goals (simp [S8.bytes, S8.list, w4])
end Go.Proofs.YtdgohabgjgdfeaaDoor
