/- Sixty-four signs: the plain law. No program in sight. -/
import Derived.Test.YtmmjgbdihgdekaaDoorVd
namespace Go.Proofs.YtmmjgbdihgdekaaDoor
open Go Go.RowKit
set_option linter.unusedSimpArgs false
set_option linter.unusedVariables false
set_option maxRecDepth 100000
def sgnT : List UInt8 := [65, 66, 67, 68, 69, 70, 71, 72, 73, 74, 75, 76, 77, 78, 79, 80, 81, 82, 83, 84, 85, 86, 87, 88, 89, 90, 97, 98, 99, 100, 101, 102, 103, 104, 105, 106, 107, 108, 109, 110, 111, 112, 113, 114, 115, 116, 117, 118, 119, 120, 121, 122, 48, 49, 50, 51, 52, 53, 54, 55, 56, 57, 43, 47]
def sgn (n : Nat) : UInt8 := (sgnT[n]?).getD 0
def b64 : List UInt8 → List UInt8
  | a :: b :: c :: r => sgn (a.toNat / 4) :: sgn (a.toNat % 4 * 16 + b.toNat / 16) :: sgn (b.toNat % 16 * 4 + c.toNat / 64) :: sgn (c.toNat % 64) :: b64 r
  | [a, b] => [sgn (a.toNat / 4), sgn (a.toNat % 4 * 16 + b.toNat / 16), sgn (b.toNat % 16 * 4), 61]
  | [a] => [sgn (a.toNat / 4), sgn (a.toNat % 4 * 16), 61, 61]
  | [] => []
/-- What the document's Write has behind so many bits: the text, the number, how many bits it has. -/
def wst (s : List UInt8 × Nat × Nat) (b : Nat) : List UInt8 × Nat × Nat := if s.2.2 = 5 then (s.1 ++ [sgn (2 * s.2.1 + b)], 0, 0) else (s.1, 2 * s.2.1 + b, s.2.2 + 1)
def bits8 (a : UInt8) : List Nat := [a.toNat / 128 % 2, a.toNat / 64 % 2, a.toNat / 32 % 2, a.toNat / 16 % 2, a.toNat / 8 % 2, a.toNat / 4 % 2, a.toNat / 2 % 2, a.toNat % 2]
def bitsL : List UInt8 → List Nat
  | [] => []
  | a :: r => bits8 a ++ bitsL r
def padE : Nat → List UInt8 → List UInt8
  | 0, o => o
  | k + 1, o => if o.length % 4 = 0 then o else padE k (o ++ [61])
def wfin (s : List UInt8 × Nat × Nat) : List UInt8 := padE 3 (if s.2.2 = 0 then s.1 else s.1 ++ [sgn (s.2.1 * 2 ^ (6 - s.2.2))])
theorem bits_fold8 (o : List UInt8) (n : Nat) (a : UInt8) : (bits8 a).foldl wst (o, n, 0) = (o ++ [sgn (64 * n + a.toNat / 4)], a.toNat % 4, 2) := by
  have := a.toNat_lt
  simp only [bits8, List.foldl, wst]
  simp
  constructor
  · congr 1; omega
  · omega
theorem bits_fold2 (o : List UInt8) (n : Nat) (a : UInt8) : (bits8 a).foldl wst (o, n, 2) = (o ++ [sgn (16 * n + a.toNat / 16)], a.toNat % 16, 4) := by
  have := a.toNat_lt
  simp only [bits8, List.foldl, wst]
  simp
  constructor
  · congr 1; omega
  · omega
theorem bits_fold4 (o : List UInt8) (n : Nat) (a : UInt8) : (bits8 a).foldl wst (o, n, 4) = (o ++ [sgn (4 * n + a.toNat / 64), sgn (a.toNat % 64)], 0, 0) := by
  have := a.toNat_lt
  simp only [bits8, List.foldl, wst]
  simp
  constructor <;> (congr 1; omega)
theorem pad3 (o : List UInt8) (x y z : UInt8) (ho : o.length % 4 = 0) : padE 3 (o ++ [x, y, z]) = o ++ [x, y, z, 61] := by
  unfold padE
  rw [if_neg (by simp; omega)]
  unfold padE
  rw [if_pos (by simp; omega)]
  simp
theorem pad2 (o : List UInt8) (x y : UInt8) (ho : o.length % 4 = 0) : padE 3 (o ++ [x, y]) = o ++ [x, y, 61, 61] := by
  unfold padE
  rw [if_neg (by simp; omega)]
  unfold padE
  rw [if_neg (by simp; omega)]
  unfold padE
  rw [if_pos (by simp; omega)]
  simp
theorem wfold (l : List UInt8) : ∀ o : List UInt8, o.length % 4 = 0 → wfin ((bitsL l).foldl wst (o, 0, 0)) = o ++ b64 l := by
  induction l using b64.induct with
  | case1 a b c r ih =>
    intro o ho
    simp only [bitsL, List.foldl_append, bits_fold8, bits_fold2, bits_fold4]
    rw [ih _ (by simp; omega)]
    simp [b64, Nat.mul_comm]
  | case2 a b =>
    intro o ho
    simp only [bitsL, List.foldl_append, bits_fold8, bits_fold2, List.foldl_nil, wfin]
    rw [if_neg (by omega), List.append_assoc, List.append_assoc]
    refine (pad3 o _ _ _ ho).trans ?_
    simp [b64, Nat.mul_comm]
  | case3 a =>
    intro o ho
    simp only [bitsL, List.foldl_append, bits_fold8, List.foldl_nil, wfin]
    rw [if_neg (by omega), List.append_assoc]
    refine (pad2 o _ _ ho).trans ?_
    simp [b64, Nat.mul_comm]
  | case4 =>
    intro o ho
    simp [bitsL, wfin, padE, ho, b64]
/-- What the document's Write hands back. -/
theorem rwrite_eq (l : List UInt8) : wfin ((bitsL l).foldl wst ([], 0, 0)) = b64 l := by
  have := wfold l [] rfl
  simpa using this
end Go.Proofs.YtmmjgbdihgdekaaDoor
