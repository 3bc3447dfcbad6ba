/- Numbers as digits of 16 bits: plain laws. -/
import Derived.Test.YtdgohabgjgdfeaaS1
namespace Go.Proofs.Ytdgohabgjgdfeaa
open Go Go.RowKit
set_option linter.unusedSimpArgs false
set_option linter.unusedVariables false
set_option maxRecDepth 100000
def valD : List Nat → Nat
  | [] => 0
  | d :: r => d + 65536 * valD r
def okD (l : List Nat) : Prop := ∀ d ∈ l, d < 65536
theorem valD_app : ∀ (a b : List Nat), valD (a ++ b) = valD a + 65536 ^ a.length * valD b
  | [], b => by simp [valD]
  | d :: r, b => by
    simp only [List.cons_append, valD, valD_app r b, List.length_cons, Nat.pow_succ, Nat.mul_add]
    rw [Nat.mul_comm (65536 ^ r.length) 65536, Nat.mul_assoc]
    omega
theorem valD_lt : ∀ {l : List Nat}, okD l → valD l < 65536 ^ l.length
  | [], _ => by simp [valD]
  | d :: r, h => by
    have h1 := valD_lt (l := r) fun x hx => h x (by simp [hx])
    have h2 := h d (by simp)
    simp only [valD, List.length_cons, Nat.pow_succ]
    omega
theorem valD_drop (l : List Nat) (k : Nat) : valD (l.drop k) = l.getD k 0 + 65536 * valD (l.drop (k + 1)) := by
  rcases Nat.lt_or_ge k l.length with h | h
  · rw [List.drop_eq_getElem_cons h]
    simp [valD, List.getD, List.getElem?_eq_getElem h]
  · rw [List.drop_eq_nil_of_le h, List.drop_eq_nil_of_le (by omega)]
    simp [valD, List.getD, List.getElem?_eq_none h]
theorem valD_split (l : List Nat) (i : Nat) : valD l = valD (l.take i) + 65536 ^ i * valD (l.drop i) := by
  rcases Nat.le_total i l.length with h | h
  · have := valD_app (l.take i) (l.drop i)
    rw [List.take_append_drop, List.length_take, Nat.min_eq_left h] at this
    exact this
  · rw [List.take_of_length_le h, List.drop_eq_nil_of_le h]
    simp [valD]
theorem okD_take {l : List Nat} (h : okD l) (i : Nat) : okD (l.take i) := fun d hd => h d (List.mem_of_mem_take hd)
theorem valD_take_lt {l : List Nat} (h : okD l) (i : Nat) : valD (l.take i) < 65536 ^ i :=
  Nat.lt_of_lt_of_le (valD_lt (okD_take h i)) (Nat.pow_le_pow_right (by omega) (by simp; omega))
theorem valD_less {l w : List Nat} {i : Nat} (hl : okD l) (he : valD (l.drop (i + 1)) = valD (w.drop (i + 1))) (hi : l.getD i 0 < w.getD i 0) : valD l < valD w := by
  rw [valD_split l i, valD_split w i, valD_drop l i, valD_drop w i, he]
  have h1 := valD_take_lt hl i
  have h2 : 65536 ^ i * (l.getD i 0 + 65536 * valD (w.drop (i + 1))) + 65536 ^ i ≤ 65536 ^ i * (w.getD i 0 + 65536 * valD (w.drop (i + 1))) := by
    rw [← Nat.mul_succ]
    exact Nat.mul_le_mul_left _ (by omega)
  omega
/-- Carried digits. -/
def cgD : Nat → Nat → List Nat
  | 0, _ => []
  | f + 1, c => if c = 0 then [] else c % 65536 :: cgD f (c / 65536)
def tmD (y : Nat) : List Nat → Nat → List Nat
  | [], c => cgD 3 c
  | d :: r, c => (y * d + c) % 65536 :: tmD y r ((y * d + c) / 65536)
theorem cgD_ok : ∀ (f c : Nat), okD (cgD f c)
  | 0, c => by simp [cgD, okD]
  | f + 1, c => by
    unfold cgD
    split
    · simp [okD]
    · intro d hd
      rcases List.mem_cons.1 hd with rfl | hd
      · omega
      · exact cgD_ok f _ d hd
theorem cgD_val : ∀ (f c : Nat), c < 65536 ^ f → valD (cgD f c) = c
  | 0, c, h => by simp at h; subst h; rfl
  | f + 1, c, h => by
    unfold cgD
    split
    · rename_i e; subst e; rfl
    · simp only [valD]
      rw [cgD_val f _ (by rw [Nat.pow_succ] at h; exact Nat.div_lt_of_lt_mul (by rw [Nat.mul_comm]; exact h))]
      omega
theorem cgD_len : ∀ (f c : Nat), (cgD f c).length ≤ f
  | 0, c => Nat.le_refl _
  | f + 1, c => by
    unfold cgD
    split
    · simp
    · have := cgD_len f (c / 65536)
      simp only [List.length_cons]
      omega
theorem carry_le {y d c : Nat} (hd : d < 65536) (hc : c ≤ y) : (y * d + c) / 65536 ≤ y := by
  have : y * d + c < 65536 * (y + 1) := by
    have : y * d ≤ y * 65535 := Nat.mul_le_mul_left _ (by omega)
    omega
  omega
theorem tmD_ok (y : Nat) : ∀ (l : List Nat) (c : Nat), okD (tmD y l c)
  | [], c => cgD_ok 3 c
  | d :: r, c => fun x hx => by
    rcases List.mem_cons.1 hx with rfl | hx
    · omega
    · exact tmD_ok y r _ x hx
theorem tmD_val {y : Nat} (hy : y < 281474976710656) : ∀ {l : List Nat} {c : Nat}, okD l → c ≤ y → valD (tmD y l c) = y * valD l + c
  | [], c, _, hc => by
    show valD (cgD 3 c) = _
    rw [cgD_val 3 c (by omega)]
    simp [valD]
  | d :: r, c, h, hc => by
    simp only [tmD, valD]
    rw [tmD_val hy (fun x hx => h x (by simp [hx])) (carry_le (h d (by simp)) hc), Nat.mul_add, Nat.mul_add, ← Nat.mul_assoc y, Nat.mul_comm y 65536, Nat.mul_assoc]
    omega
theorem tmD_len (y : Nat) : ∀ (l : List Nat) (c : Nat), (tmD y l c).length ≤ l.length + 3
  | [], c => by have := cgD_len 3 c; simp only [tmD, List.length_nil]; omega
  | d :: r, c => by have := tmD_len y r ((y * d + c) / 65536); simp only [tmD, List.length_cons]; omega
/-- y to the power, as digits. -/
def pwD (y : Nat) : Nat → List Nat
  | 0 => [1]
  | n + 1 => tmD y (pwD y n) 0
theorem pwD_ok (y : Nat) : ∀ n, okD (pwD y n)
  | 0 => by simp [pwD, okD]
  | n + 1 => tmD_ok y _ _
theorem pwD_val {y : Nat} (hy : y < 281474976710656) : ∀ n, valD (pwD y n) = y ^ n
  | 0 => by simp [pwD, valD]
  | n + 1 => by
    rw [pwD, tmD_val hy (pwD_ok y n) (Nat.zero_le _), pwD_val hy n, Nat.pow_succ, Nat.mul_comm]
    rfl
theorem pwD_len (y : Nat) : ∀ n, (pwD y n).length ≤ 3 * n + 1
  | 0 => by simp [pwD]
  | n + 1 => by have := tmD_len y (pwD y n) 0; have := pwD_len y n; simp only [pwD]; omega
/-- A prime, so many digits higher. -/
def shD (p k : Nat) : List Nat := List.replicate k 0 ++ [p % 65536]
theorem shD_val (p k : Nat) : valD (shD p k) = 65536 ^ k * (p % 65536) := by
  have : ∀ k, valD (List.replicate k 0) = 0 := by
    intro k
    induction k with
    | zero => rfl
    | succ k ih => simp only [List.replicate_succ, valD, ih]
  unfold shD
  rw [valD_app, this]
  simp [valD]
theorem shD_ok (p k : Nat) : okD (shD p k) := fun d hd => by
  unfold shD at hd
  rcases List.mem_append.1 hd with h | h
  · rw [(List.mem_replicate.1 h).2]; omega
  · simp at h; omega
/-- Is y to the power not above? -/
def belD (y p n : Nat) : Bool := Nat.ble (y ^ n) (4294967296 ^ n * p)
/-- The greatest, bit by bit. -/
def rootL (p n : Nat) : Nat → Nat
  | 0 => 0
  | k + 1 => if belD (rootL p n k ||| 2 ^ (35 - k)) p n then rootL p n k ||| 2 ^ (35 - k) else rootL p n k
theorem rootL_lt (p n : Nat) : ∀ k, rootL p n k < 68719476736
  | 0 => by simp [rootL]
  | k + 1 => by
    have h := rootL_lt p n k
    have h2 : 2 ^ (35 - k) < 2 ^ 36 := Nat.pow_lt_pow_right (by omega) (by omega)
    have h3 : rootL p n k ||| 2 ^ (35 - k) < 2 ^ 36 := Nat.or_lt_two_pow h h2
    simp only [rootL]
    split
    · exact h3
    · exact h
def rootN (p n : Nat) : Nat := rootL p n 36 % 4294967296
/-- The primes below a number. -/
def prD : Nat → List Nat
  | 0 => []
  | k + 1 => if (prD k).all (fun q => (k + 2) % q != 0) then prD k ++ [k + 2] else prD k
def prT : List Nat := [2, 3, 5, 7, 11, 13, 17, 19, 23, 29, 31, 37, 41, 43, 47, 53, 59, 61, 67, 71, 73, 79, 83, 89, 97, 101, 103, 107, 109, 113, 127, 131, 137, 139, 149, 151, 157, 163, 167, 173, 179, 181, 191, 193, 197, 199, 211, 223, 227, 229, 233, 239, 241, 251, 257, 263, 269, 271, 277, 281, 283, 293, 307, 311]
theorem prD_310 : prD 310 = prT := by decide +kernel
theorem prD_309 : (prD 309).length = 63 := by decide +kernel
theorem prD_mono {k : Nat} : ∀ j, (prD k).length ≤ (prD (k + j)).length
  | 0 => Nat.le_refl _
  | j + 1 => Nat.le_trans (prD_mono j) (by
    show _ ≤ (if _ then prD (k + j) ++ [k + j + 2] else prD (k + j)).length
    split
    · simp
    · exact Nat.le_refl _)
theorem prD_less {k : Nat} (h : (prD k).length < 64) : k < 310 := by
  rcases Nat.lt_or_ge k 310 with g | g
  · exact g
  · have := prD_mono (k := 310) (k - 310)
    rw [prD_310, show 310 + (k - 310) = k by omega] at this
    have : prT.length = 64 := rfl
    omega
theorem prD_done {k : Nat} (h : ¬ (prD k).length < 64) (hk : k ≤ 310) : prD k = prT := by
  rcases Nat.lt_or_ge k 310 with g | g
  · have := prD_mono (k := k) (309 - k)
    rw [show k + (309 - k) = 309 by omega, prD_309] at this
    omega
  · rw [← prD_310, show k = 310 by omega]
theorem roots3 : prT.map (fun p => rootN p 3) = kT := by decide +kernel
theorem roots2 : (prT.take 8).map (fun p => rootN p 2) = h0T.list := by decide +kernel
end Go.Proofs.Ytdgohabgjgdfeaa
