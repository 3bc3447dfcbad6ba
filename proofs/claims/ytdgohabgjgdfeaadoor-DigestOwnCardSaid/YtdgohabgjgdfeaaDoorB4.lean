/- Bits of numbers, and the parts of sixty-four signs as the program reckons them. -/
import Derived.Test.YtdgohabgjgdfeaaDoorB1
namespace Go.Proofs.YtdgohabgjgdfeaaDoor
open Go Go.RowKit
set_option linter.unusedSimpArgs false
set_option linter.unusedVariables false
set_option maxRecDepth 100000
theorem ofInt_nat (n a : Nat) : BitVec.ofInt n (a : Int) = BitVec.ofNat n a := by
  apply BitVec.eq_of_toNat_eq
  simp [BitVec.toNat_ofInt, BitVec.toNat_ofNat]
theorem or_u64 {a b : Nat} (ha : a < 2 ^ 64) (hb : b < 2 ^ 64) : bitZ .or .u64 (a : Int) (b : Int) = ((a ||| b : Nat) : Int) := by
  have hlt : a ||| b < 2 ^ 64 := Nat.or_lt_two_pow ha hb
  rw [bitZ_def]
  show IntKind.u64.wrap _ = _
  have e : IntKind.u64.bits = 64 := rfl
  rw [e, ofInt_nat, ofInt_nat, BitVec.toNat_or, BitVec.toNat_ofNat, BitVec.toNat_ofNat, Nat.mod_eq_of_lt ha, Nat.mod_eq_of_lt hb, wrap_u64]
  omega
theorem and_u64 {a b : Nat} (ha : a < 2 ^ 64) (hb : b < 2 ^ 64) : bitZ .and .u64 (a : Int) (b : Int) = ((a &&& b : Nat) : Int) := by
  have hlt : a &&& b < 2 ^ 64 := Nat.and_lt_two_pow _ hb
  rw [bitZ_def]
  show IntKind.u64.wrap _ = _
  have e : IntKind.u64.bits = 64 := rfl
  rw [e, ofInt_nat, ofInt_nat, BitVec.toNat_and, BitVec.toNat_ofNat, BitVec.toNat_ofNat, Nat.mod_eq_of_lt ha, Nat.mod_eq_of_lt hb, wrap_u64]
  omega
theorem shl_u64 {a k : Nat} (hk : k ≤ 64) (h : a * 2 ^ k < 2 ^ 64) : shlZ .u64 (a : Int) (k : Int) = ((a * 2 ^ k : Nat) : Int) := by
  rw [shlZ_def]
  unfold shlZ0
  have e : IntKind.u64.bits = 64 := rfl
  rw [e, Int.toNat_natCast, Nat.min_eq_left hk, wrap_u64]
  have : (a : Int) * 2 ^ k = ((a * 2 ^ k : Nat) : Int) := by push_cast; rfl
  rw [this]
  omega
theorem shr_u64 {a k : Nat} (hk : k ≤ 64) : shrZ .u64 (a : Int) (k : Int) = ((a / 2 ^ k : Nat) : Int) := by
  rw [shrZ_def]
  unfold shrZ0
  have e : IntKind.u64.bits = 64 := rfl
  rw [e, Int.toNat_natCast, Nat.min_eq_left hk, Int.fdiv_eq_ediv_of_nonneg _ (by exact Int.le_of_lt (Int.pow_pos (by omega)))]
  push_cast
  rfl
/-- Three bytes as one number. -/
theorem three {a b c : Nat} (ha : a < 256) (hb : b < 256) (hc : c < 256) : bitZ .or .u64 (bitZ .or .u64 (shlZ .u64 (a : Int) 16) (shlZ .u64 (b : Int) 8)) (c : Int) = ((a * 65536 + b * 256 + c : Nat) : Int) := by
  have h1 := shl_u64 (a := a) (k := 16) (by omega) (by omega)
  have h2 := shl_u64 (a := b) (k := 8) (by omega) (by omega)
  have e1 : ((16 : Nat) : Int) = 16 := rfl
  have e2 : ((8 : Nat) : Int) = 8 := rfl
  rw [e1] at h1
  rw [e2] at h2
  rw [h1, h2, or_u64 (by omega) (by omega)]
  have h3 : a * 2 ^ 16 ||| b * 2 ^ 8 = a * 65536 + b * 256 := by
    have h5 := Nat.shiftLeft_add_eq_or_of_lt (i := 16) (b := b * 2 ^ 8) (by omega) a
    rw [Nat.shiftLeft_eq] at h5
    rw [← h5]
  rw [h3, or_u64 (by omega) (by omega)]
  have h4 : (a * 65536 + b * 256) ||| c = a * 65536 + b * 256 + c := by
    have h5 := Nat.shiftLeft_add_eq_or_of_lt (i := 8) (b := c) (by omega) (a * 256 + b)
    rw [Nat.shiftLeft_eq, show (a * 256 + b) * 2 ^ 8 = a * 65536 + b * 256 by omega] at h5
    exact h5.symm
  rw [h4]
/-- Six bits of it. -/
theorem six {n k : Nat} (hn : n < 16777216) (hk : k ≤ 18) : bitZ .and .u64 (shrZ .u64 (n : Int) (k : Int)) 63 = ((n / 2 ^ k % 64 : Nat) : Int) := by
  have hlt : n / 2 ^ k < 2 ^ 64 := Nat.lt_of_le_of_lt (Nat.div_le_self _ _) (by omega)
  have := and_u64 (a := n / 2 ^ k) (b := 63) hlt (by omega)
  rw [shr_u64 (by omega)]
  refine Eq.trans this ?_
  rw [show (63 : Nat) = 2 ^ 6 - 1 by rfl, Nat.and_two_pow_sub_one_eq_mod]
theorem sgnT_at {m : Nat} (hm : m < 64) : sgnT[m]? = some (sgn m) := by
  unfold sgn
  have : m < sgnT.length := hm
  rw [List.getElem?_eq_getElem this]
  rfl
/-- What is written of a chunk. -/
def quadW : List UInt8 → List UInt8
  | [a] => [sgn (a.toNat / 4), sgn (a.toNat % 4 * 16), 61, 61]
  | [a, b] => [sgn (a.toNat / 4), sgn (a.toNat % 4 * 16 + b.toNat / 16), sgn (b.toNat % 16 * 4), 61]
  | [a, b, c] => [sgn (a.toNat / 4), sgn (a.toNat % 4 * 16 + b.toNat / 16), sgn (b.toNat % 16 * 4 + c.toNat / 64), sgn (c.toNat % 64)]
  | _ => []
theorem b64_chunk : ∀ l : List UInt8, b64 l = quadW (l.take 3) ++ b64 (l.drop 3)
  | [] => rfl
  | [a] => rfl
  | [a, b] => rfl
  | a :: b :: c :: r => by cases r <;> rfl
theorem quad_at {a b c i : Nat} (ha : a < 256) (hb : b < 256) (hc : c < 256) (hi : i < 4) : (a * 65536 + b * 256 + c) / 2 ^ (18 - 6 * i) % 64 = (if i = 0 then a / 4 else if i = 1 then a % 4 * 16 + b / 16 else if i = 2 then b % 16 * 4 + c / 64 else c % 64) := by
  match i, hi with
  | 0, _ => simp; omega
  | 1, _ => simp; omega
  | 2, _ => simp; omega
  | 3, _ => simp; omega
end Go.Proofs.YtdgohabgjgdfeaaDoor
