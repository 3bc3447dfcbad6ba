import Derived.Test.YtmmjgbdihgdekaaDoorE5
/- Sixty-four signs: the plain law. No program in sight. -/
namespace Go.Proofs.YtmmjgbdihgdekaaDoor
open Go Go.RowKit
set_option linter.unusedSimpArgs false
set_option linter.unusedVariables false
set_option maxRecDepth 100000
def sgnT : List UInt8 := [65, 66, 67, 68, 69, 70, 71, 72, 73, 74, 75, 76, 77, 78, 79, 80, 81, 82, 83, 84, 85, 86, 87, 88, 89, 90, 97, 98, 99, 100, 101, 102, 103, 104, 105, 106, 107, 108, 109, 110, 111, 112, 113, 114, 115, 116, 117, 118, 119, 120, 121, 122, 48, 49, 50, 51, 52, 53, 54, 55, 56, 57, 43, 47]
def sgn (n : Nat) : UInt8 := (sgnT[n]?).getD 0
def b64 : List UInt8 → List UInt8
  | a :: b :: c :: r => sgn (a.toNat / 4) :: sgn (a.toNat % 4 * 16 + b.toNat / 16) :: sgn (b.toNat % 16 * 4 + c.toNat / 64) :: sgn (c.toNat % 64) :: b64 r
  | [a, b] => [sgn (a.toNat / 4), sgn (a.toNat % 4 * 16 + b.toNat / 16), sgn (b.toNat % 16 * 4), 61]
  | [a] => [sgn (a.toNat / 4), sgn (a.toNat % 4 * 16), 61, 61]
  | [] => []
/-- What the document's Write has behind so many bits: the text, the number, how many bits it has. -/
def wst (s : List UInt8 × Nat × Nat) (b : Nat) : List UInt8 × Nat × Nat := if s.2.2 = 5 then (s.1 ++ [sgn (2 * s.2.1 + b)], 0, 0) else (s.1, 2 * s.2.1 + b, s.2.2 + 1)
def bits8 (a : UInt8) : List Nat := [a.toNat / 128 % 2, a.toNat / 64 % 2, a.toNat / 32 % 2, a.toNat / 16 % 2, a.toNat / 8 % 2, a.toNat / 4 % 2, a.toNat / 2 % 2, a.toNat % 2]
def bitsL : List UInt8 → List Nat
  | [] => []
  | a :: r => bits8 a ++ bitsL r
def padE : Nat → List UInt8 → List UInt8
  | 0, o => o
  | k + 1, o => if o.length % 4 = 0 then o else padE k (o ++ [61])
def wfin (s : List UInt8 × Nat × Nat) : List UInt8 := padE 3 (if s.2.2 = 0 then s.1 else s.1 ++ [sgn (s.2.1 * 2 ^ (6 - s.2.2))])
theorem bits_fold8 (o : List UInt8) (n : Nat) (a : UInt8) : (bits8 a).foldl wst (o, n, 0) = (o ++ [sgn (64 * n + a.toNat / 4)], a.toNat % 4, 2) := by
  have := a.toNat_lt
  simp only [bits8, List.foldl, wst]
  simp
  constructor
  · congr 1; omega
  · omega
theorem bits_fold2 (o : List UInt8) (n : Nat) (a : UInt8) : (bits8 a).foldl wst (o, n, 2) = (o ++ [sgn (16 * n + a.toNat / 16)], a.toNat % 16, 4) := by
  have := a.toNat_lt
  simp only [bits8, List.foldl, wst]
  simp
  constructor
  · congr 1; omega
  · omega
theorem bits_fold4 (o : List UInt8) (n : Nat) (a : UInt8) : (bits8 a).foldl wst (o, n, 4) = (o ++ [sgn (4 * n + a.toNat / 64), sgn (a.toNat % 64)], 0, 0) := by
  have := a.toNat_lt
  simp only [bits8, List.foldl, wst]
  simp
  constructor <;> (congr 1; omega)
theorem pad3 (o : List UInt8) (x y z : UInt8) (ho : o.length % 4 = 0) : padE 3 (o ++ [x, y, z]) = o ++ [x, y, z, 61] := by
  unfold padE
  rw [if_neg (by simp; omega)]
  unfold padE
  rw [if_pos (by simp; omega)]
  simp
theorem pad2 (o : List UInt8) (x y : UInt8) (ho : o.length % 4 = 0) : padE 3 (o ++ [x, y]) = o ++ [x, y, 61, 61] := by
  unfold padE
  rw [if_neg (by simp; omega)]
  unfold padE
  rw [if_neg (by simp; omega)]
  unfold padE
  rw [if_pos (by simp; omega)]
  simp
theorem wfold (l : List UInt8) : ∀ o : List UInt8, o.length % 4 = 0 → wfin ((bitsL l).foldl wst (o, 0, 0)) = o ++ b64 l := by
  induction l using b64.induct with
  | case1 a b c r ih =>
    intro o ho
    simp only [bitsL, List.foldl_append, bits_fold8, bits_fold2, bits_fold4]
    rw [ih _ (by simp; omega)]
    simp [b64, Nat.mul_comm]
  | case2 a b =>
    intro o ho
    simp only [bitsL, List.foldl_append, bits_fold8, bits_fold2, List.foldl_nil, wfin]
    rw [if_neg (by omega), List.append_assoc, List.append_assoc]
    refine (pad3 o _ _ _ ho).trans ?_
    simp [b64, Nat.mul_comm]
  | case3 a =>
    intro o ho
    simp only [bitsL, List.foldl_append, bits_fold8, List.foldl_nil, wfin]
    rw [if_neg (by omega), List.append_assoc]
    refine (pad2 o _ _ ho).trans ?_
    simp [b64, Nat.mul_comm]
  | case4 =>
    intro o ho
    simp [bitsL, wfin, padE, ho, b64]
/-- What the document's Write hands back. -/
theorem rwrite_eq (l : List UInt8) : wfin ((bitsL l).foldl wst ([], 0, 0)) = b64 l := by
  have := wfold l [] rfl
  simpa using this
end Go.Proofs.YtmmjgbdihgdekaaDoor

/- Bits of numbers, and the parts of sixty-four signs as the program reckons them. -/
namespace Go.Proofs.YtmmjgbdihgdekaaDoor
open Go Go.RowKit
set_option linter.unusedSimpArgs false
set_option linter.unusedVariables false
set_option maxRecDepth 100000
theorem ofInt_nat (n a : Nat) : BitVec.ofInt n (a : Int) = BitVec.ofNat n a := by
  apply BitVec.eq_of_toNat_eq
  simp [BitVec.toNat_ofInt, BitVec.toNat_ofNat]
theorem or_u64 {a b : Nat} (ha : a < 2 ^ 64) (hb : b < 2 ^ 64) : bitZ .or .u64 (a : Int) (b : Int) = ((a ||| b : Nat) : Int) := by
  have hlt : a ||| b < 2 ^ 64 := Nat.or_lt_two_pow ha hb
  rw [bitZ_def]
  show IntKind.u64.wrap _ = _
  have e : IntKind.u64.bits = 64 := rfl
  rw [e, ofInt_nat, ofInt_nat, BitVec.toNat_or, BitVec.toNat_ofNat, BitVec.toNat_ofNat, Nat.mod_eq_of_lt ha, Nat.mod_eq_of_lt hb, wrap_u64]
  omega
theorem and_u64 {a b : Nat} (ha : a < 2 ^ 64) (hb : b < 2 ^ 64) : bitZ .and .u64 (a : Int) (b : Int) = ((a &&& b : Nat) : Int) := by
  have hlt : a &&& b < 2 ^ 64 := Nat.and_lt_two_pow _ hb
  rw [bitZ_def]
  show IntKind.u64.wrap _ = _
  have e : IntKind.u64.bits = 64 := rfl
  rw [e, ofInt_nat, ofInt_nat, BitVec.toNat_and, BitVec.toNat_ofNat, BitVec.toNat_ofNat, Nat.mod_eq_of_lt ha, Nat.mod_eq_of_lt hb, wrap_u64]
  omega
theorem shl_u64 {a k : Nat} (hk : k ≤ 64) (h : a * 2 ^ k < 2 ^ 64) : shlZ .u64 (a : Int) (k : Int) = ((a * 2 ^ k : Nat) : Int) := by
  rw [shlZ_def]
  unfold shlZ0
  have e : IntKind.u64.bits = 64 := rfl
  rw [e, Int.toNat_natCast, Nat.min_eq_left hk, wrap_u64]
  have : (a : Int) * 2 ^ k = ((a * 2 ^ k : Nat) : Int) := by push_cast; rfl
  rw [this]
  omega
theorem shr_u64 {a k : Nat} (hk : k ≤ 64) : shrZ .u64 (a : Int) (k : Int) = ((a / 2 ^ k : Nat) : Int) := by
  rw [shrZ_def]
  unfold shrZ0
  have e : IntKind.u64.bits = 64 := rfl
  rw [e, Int.toNat_natCast, Nat.min_eq_left hk, Int.fdiv_eq_ediv_of_nonneg _ (by exact Int.le_of_lt (Int.pow_pos (by omega)))]
  push_cast
  rfl
/-- Three bytes as one number. -/
theorem three {a b c : Nat} (ha : a < 256) (hb : b < 256) (hc : c < 256) : bitZ .or .u64 (bitZ .or .u64 (shlZ .u64 (a : Int) 16) (shlZ .u64 (b : Int) 8)) (c : Int) = ((a * 65536 + b * 256 + c : Nat) : Int) := by
  have h1 := shl_u64 (a := a) (k := 16) (by omega) (by omega)
  have h2 := shl_u64 (a := b) (k := 8) (by omega) (by omega)
  have e1 : ((16 : Nat) : Int) = 16 := rfl
  have e2 : ((8 : Nat) : Int) = 8 := rfl
  rw [e1] at h1
  rw [e2] at h2
  rw [h1, h2, or_u64 (by omega) (by omega)]
  have h3 : a * 2 ^ 16 ||| b * 2 ^ 8 = a * 65536 + b * 256 := by
    have h5 := Nat.shiftLeft_add_eq_or_of_lt (i := 16) (b := b * 2 ^ 8) (by omega) a
    rw [Nat.shiftLeft_eq] at h5
    rw [← h5]
  rw [h3, or_u64 (by omega) (by omega)]
  have h4 : (a * 65536 + b * 256) ||| c = a * 65536 + b * 256 + c := by
    have h5 := Nat.shiftLeft_add_eq_or_of_lt (i := 8) (b := c) (by omega) (a * 256 + b)
    rw [Nat.shiftLeft_eq, show (a * 256 + b) * 2 ^ 8 = a * 65536 + b * 256 by omega] at h5
    exact h5.symm
  rw [h4]
/-- Six bits of it. -/
theorem six {n k : Nat} (hn : n < 16777216) (hk : k ≤ 18) : bitZ .and .u64 (shrZ .u64 (n : Int) (k : Int)) 63 = ((n / 2 ^ k % 64 : Nat) : Int) := by
  have hlt : n / 2 ^ k < 2 ^ 64 := Nat.lt_of_le_of_lt (Nat.div_le_self _ _) (by omega)
  have := and_u64 (a := n / 2 ^ k) (b := 63) hlt (by omega)
  rw [shr_u64 (by omega)]
  refine Eq.trans this ?_
  rw [show (63 : Nat) = 2 ^ 6 - 1 by rfl, Nat.and_two_pow_sub_one_eq_mod]
theorem sgnT_at {m : Nat} (hm : m < 64) : sgnT[m]? = some (sgn m) := by
  unfold sgn
  have : m < sgnT.length := hm
  rw [List.getElem?_eq_getElem this]
  rfl
/-- What is written of a chunk. -/
def quadW : List UInt8 → List UInt8
  | [a] => [sgn (a.toNat / 4), sgn (a.toNat % 4 * 16), 61, 61]
  | [a, b] => [sgn (a.toNat / 4), sgn (a.toNat % 4 * 16 + b.toNat / 16), sgn (b.toNat % 16 * 4), 61]
  | [a, b, c] => [sgn (a.toNat / 4), sgn (a.toNat % 4 * 16 + b.toNat / 16), sgn (b.toNat % 16 * 4 + c.toNat / 64), sgn (c.toNat % 64)]
  | _ => []
theorem b64_chunk : ∀ l : List UInt8, b64 l = quadW (l.take 3) ++ b64 (l.drop 3)
  | [] => rfl
  | [a] => rfl
  | [a, b] => rfl
  | a :: b :: c :: r => by cases r <;> rfl
theorem quad_at {a b c i : Nat} (ha : a < 256) (hb : b < 256) (hc : c < 256) (hi : i < 4) : (a * 65536 + b * 256 + c) / 2 ^ (18 - 6 * i) % 64 = (if i = 0 then a / 4 else if i = 1 then a % 4 * 16 + b / 16 else if i = 2 then b % 16 * 4 + c / 64 else c % 64) := by
  match i, hi with
  | 0, _ => simp; omega
  | 1, _ => simp; omega
  | 2, _ => simp; omega
  | 3, _ => simp; omega
end Go.Proofs.YtmmjgbdihgdekaaDoor

