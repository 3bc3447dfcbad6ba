import Derived.Test.YtmmjgbdihgdekaaDoorG6
import Derived.Test.YtmmjgbdihgdekaaDoorE6
import Derived.Test.YtmmjgbdihgdekaaDoorGc
/- Numbers as digits of 16 bits: plain laws. -/
namespace Go.Proofs.YtmmjgbdihgdekaaDoor
open Go Go.RowKit
set_option linter.unusedSimpArgs false
set_option linter.unusedVariables false
set_option maxRecDepth 100000
def valD : List Nat → Nat
  | [] => 0
  | d :: r => d + 65536 * valD r
def okD (l : List Nat) : Prop := ∀ d ∈ l, d < 65536
theorem valD_app : ∀ (a b : List Nat), valD (a ++ b) = valD a + 65536 ^ a.length * valD b
  | [], b => by simp [valD]
  | d :: r, b => by
    simp only [List.cons_append, valD, valD_app r b, List.length_cons, Nat.pow_succ, Nat.mul_add]
    rw [Nat.mul_comm (65536 ^ r.length) 65536, Nat.mul_assoc]
    omega
theorem valD_lt : ∀ {l : List Nat}, okD l → valD l < 65536 ^ l.length
  | [], _ => by simp [valD]
  | d :: r, h => by
    have h1 := valD_lt (l := r) fun x hx => h x (by simp [hx])
    have h2 := h d (by simp)
    simp only [valD, List.length_cons, Nat.pow_succ]
    omega
theorem valD_drop (l : List Nat) (k : Nat) : valD (l.drop k) = l.getD k 0 + 65536 * valD (l.drop (k + 1)) := by
  rcases Nat.lt_or_ge k l.length with h | h
  · rw [List.drop_eq_getElem_cons h]
    simp [valD, List.getD, List.getElem?_eq_getElem h]
  · rw [List.drop_eq_nil_of_le h, List.drop_eq_nil_of_le (by omega)]
    simp [valD, List.getD, List.getElem?_eq_none h]
theorem valD_split (l : List Nat) (i : Nat) : valD l = valD (l.take i) + 65536 ^ i * valD (l.drop i) := by
  rcases Nat.le_total i l.length with h | h
  · have := valD_app (l.take i) (l.drop i)
    rw [List.take_append_drop, List.length_take, Nat.min_eq_left h] at this
    exact this
  · rw [List.take_of_length_le h, List.drop_eq_nil_of_le h]
    simp [valD]
theorem okD_take {l : List Nat} (h : okD l) (i : Nat) : okD (l.take i) := fun d hd => h d (List.mem_of_mem_take hd)
theorem valD_take_lt {l : List Nat} (h : okD l) (i : Nat) : valD (l.take i) < 65536 ^ i :=
  Nat.lt_of_lt_of_le (valD_lt (okD_take h i)) (Nat.pow_le_pow_right (by omega) (by simp; omega))
theorem valD_less {l w : List Nat} {i : Nat} (hl : okD l) (he : valD (l.drop (i + 1)) = valD (w.drop (i + 1))) (hi : l.getD i 0 < w.getD i 0) : valD l < valD w := by
  rw [valD_split l i, valD_split w i, valD_drop l i, valD_drop w i, he]
  have h1 := valD_take_lt hl i
  have h2 : 65536 ^ i * (l.getD i 0 + 65536 * valD (w.drop (i + 1))) + 65536 ^ i ≤ 65536 ^ i * (w.getD i 0 + 65536 * valD (w.drop (i + 1))) := by
    rw [← Nat.mul_succ]
    exact Nat.mul_le_mul_left _ (by omega)
  omega
/-- Carried digits. -/
def cgD : Nat → Nat → List Nat
  | 0, _ => []
  | f + 1, c => if c = 0 then [] else c % 65536 :: cgD f (c / 65536)
def tmD (y : Nat) : List Nat → Nat → List Nat
  | [], c => cgD 3 c
  | d :: r, c => (y * d + c) % 65536 :: tmD y r ((y * d + c) / 65536)
theorem cgD_ok : ∀ (f c : Nat), okD (cgD f c)
  | 0, c => by simp [cgD, okD]
  | f + 1, c => by
    unfold cgD
    split
    · simp [okD]
    · intro d hd
      rcases List.mem_cons.1 hd with rfl | hd
      · omega
      · exact cgD_ok f _ d hd
theorem cgD_val : ∀ (f c : Nat), c < 65536 ^ f → valD (cgD f c) = c
  | 0, c, h => by simp at h; subst h; rfl
  | f + 1, c, h => by
    unfold cgD
    split
    · rename_i e; subst e; rfl
    · simp only [valD]
      rw [cgD_val f _ (by rw [Nat.pow_succ] at h; exact Nat.div_lt_of_lt_mul (by rw [Nat.mul_comm]; exact h))]
      omega
theorem cgD_len : ∀ (f c : Nat), (cgD f c).length ≤ f
  | 0, c => Nat.le_refl _
  | f + 1, c => by
    unfold cgD
    split
    · simp
    · have := cgD_len f (c / 65536)
      simp only [List.length_cons]
      omega
theorem carry_le {y d c : Nat} (hd : d < 65536) (hc : c ≤ y) : (y * d + c) / 65536 ≤ y := by
  have : y * d + c < 65536 * (y + 1) := by
    have : y * d ≤ y * 65535 := Nat.mul_le_mul_left _ (by omega)
    omega
  omega
theorem tmD_ok (y : Nat) : ∀ (l : List Nat) (c : Nat), okD (tmD y l c)
  | [], c => cgD_ok 3 c
  | d :: r, c => fun x hx => by
    rcases List.mem_cons.1 hx with rfl | hx
    · omega
    · exact tmD_ok y r _ x hx
theorem tmD_val {y : Nat} (hy : y < 281474976710656) : ∀ {l : List Nat} {c : Nat}, okD l → c ≤ y → valD (tmD y l c) = y * valD l + c
  | [], c, _, hc => by
    show valD (cgD 3 c) = _
    rw [cgD_val 3 c (by omega)]
    simp [valD]
  | d :: r, c, h, hc => by
    simp only [tmD, valD]
    rw [tmD_val hy (fun x hx => h x (by simp [hx])) (carry_le (h d (by simp)) hc), Nat.mul_add, Nat.mul_add, ← Nat.mul_assoc y, Nat.mul_comm y 65536, Nat.mul_assoc]
    omega
theorem tmD_len (y : Nat) : ∀ (l : List Nat) (c : Nat), (tmD y l c).length ≤ l.length + 3
  | [], c => by have := cgD_len 3 c; simp only [tmD, List.length_nil]; omega
  | d :: r, c => by have := tmD_len y r ((y * d + c) / 65536); simp only [tmD, List.length_cons]; omega
/-- y to the power, as digits. -/
def pwD (y : Nat) : Nat → List Nat
  | 0 => [1]
  | n + 1 => tmD y (pwD y n) 0
theorem pwD_ok (y : Nat) : ∀ n, okD (pwD y n)
  | 0 => by simp [pwD, okD]
  | n + 1 => tmD_ok y _ _
theorem pwD_val {y : Nat} (hy : y < 281474976710656) : ∀ n, valD (pwD y n) = y ^ n
  | 0 => by simp [pwD, valD]
  | n + 1 => by
    rw [pwD, tmD_val hy (pwD_ok y n) (Nat.zero_le _), pwD_val hy n, Nat.pow_succ, Nat.mul_comm]
    rfl
theorem pwD_len (y : Nat) : ∀ n, (pwD y n).length ≤ 3 * n + 1
  | 0 => by simp [pwD]
  | n + 1 => by have := tmD_len y (pwD y n) 0; have := pwD_len y n; simp only [pwD]; omega
/-- A prime, so many digits higher. -/
def shD (p k : Nat) : List Nat := List.replicate k 0 ++ [p % 65536]
theorem shD_val (p k : Nat) : valD (shD p k) = 65536 ^ k * (p % 65536) := by
  have : ∀ k, valD (List.replicate k 0) = 0 := by
    intro k
    induction k with
    | zero => rfl
    | succ k ih => simp only [List.replicate_succ, valD, ih]
  unfold shD
  rw [valD_app, this]
  simp [valD]
theorem shD_ok (p k : Nat) : okD (shD p k) := fun d hd => by
  unfold shD at hd
  rcases List.mem_append.1 hd with h | h
  · rw [(List.mem_replicate.1 h).2]; omega
  · simp at h; omega
/-- Is y to the power not above? -/
def belD (y p n : Nat) : Bool := Nat.ble (y ^ n) (4294967296 ^ n * p)
/-- The greatest, bit by bit. -/
def rootL (p n : Nat) : Nat → Nat
  | 0 => 0
  | k + 1 => if belD (rootL p n k ||| 2 ^ (35 - k)) p n then rootL p n k ||| 2 ^ (35 - k) else rootL p n k
theorem rootL_lt (p n : Nat) : ∀ k, rootL p n k < 68719476736
  | 0 => by simp [rootL]
  | k + 1 => by
    have h := rootL_lt p n k
    have h2 : 2 ^ (35 - k) < 2 ^ 36 := Nat.pow_lt_pow_right (by omega) (by omega)
    have h3 : rootL p n k ||| 2 ^ (35 - k) < 2 ^ 36 := Nat.or_lt_two_pow h h2
    simp only [rootL]
    split
    · exact h3
    · exact h
def rootN (p n : Nat) : Nat := rootL p n 36 % 4294967296
/-- The primes below a number. -/
def prD : Nat → List Nat
  | 0 => []
  | k + 1 => if (prD k).all (fun q => (k + 2) % q != 0) then prD k ++ [k + 2] else prD k
def prT : List Nat := [2, 3, 5, 7, 11, 13, 17, 19, 23, 29, 31, 37, 41, 43, 47, 53, 59, 61, 67, 71, 73, 79, 83, 89, 97, 101, 103, 107, 109, 113, 127, 131, 137, 139, 149, 151, 157, 163, 167, 173, 179, 181, 191, 193, 197, 199, 211, 223, 227, 229, 233, 239, 241, 251, 257, 263, 269, 271, 277, 281, 283, 293, 307, 311]
theorem prD_310 : prD 310 = prT := by decide +kernel
theorem prD_309 : (prD 309).length = 63 := by decide +kernel
theorem prD_mono {k : Nat} : ∀ j, (prD k).length ≤ (prD (k + j)).length
  | 0 => Nat.le_refl _
  | j + 1 => Nat.le_trans (prD_mono j) (by
    show _ ≤ (if _ then prD (k + j) ++ [k + j + 2] else prD (k + j)).length
    split
    · simp
    · exact Nat.le_refl _)
theorem prD_less {k : Nat} (h : (prD k).length < 64) : k < 310 := by
  rcases Nat.lt_or_ge k 310 with g | g
  · exact g
  · have := prD_mono (k := 310) (k - 310)
    rw [prD_310, show 310 + (k - 310) = k by omega] at this
    have : prT.length = 64 := rfl
    omega
theorem prD_done {k : Nat} (h : ¬ (prD k).length < 64) (hk : k ≤ 310) : prD k = prT := by
  rcases Nat.lt_or_ge k 310 with g | g
  · have := prD_mono (k := k) (309 - k)
    rw [show k + (309 - k) = 309 by omega, prD_309] at this
    omega
  · rw [← prD_310, show k = 310 by omega]
end Go.Proofs.YtmmjgbdihgdekaaDoor

/- The document's digits, walked. -/
namespace Go.Proofs.YtmmjgbdihgdekaaDoor
open Go Go.RowKit
set_option linter.unusedSimpArgs false
set_option linter.unusedVariables false
set_option maxRecDepth 100000
set_option maxHeartbeats 4000000
def uV (n : Nat) : VV := .sc (.int .u64 (n : Int))
def roU (l : List Nat) : VV := .ro l.length (l.map uV)
theorem nameless_uV (n : Nat) : Nameless (uV n) := nameless_sc _
theorem nameless_roU (l : List Nat) : Nameless (roU l) := nameless_ro (nameless_map nameless_uV l)
theorem sty_u : SlTy Tryd.prog 112 1 8 := ⟨⟨_, _, _, rfl, rfl, rfl, rfl, rfl, rfl⟩⟩
theorem vagg_u : vagg Tryd.prog 114 = some false := by kernel_rfl
theorem mapu_at {l : List Nat} {i x : Nat} (h : l[i]? = some x) : (l.map uV)[i]? = some (uV x) := by
  rw [List.getElem?_map, h]; rfl
theorem digit_call (l : List Nat) (i : Nat) (H : Heap) : VCall Tryd.prog 148 [roU l, iV i] H (fun v K => v = uV (l.getD i 0) ∧ K = H) := by
  by_cases hi : i < l.length
  · have hg : l[i]? = some l[i] := List.getElem?_eq_getElem hi
    have e : l.getD i 0 = l[i] := by simp [List.getD, hg]
    rw [e]
    generalize l[i] = x at hg
    refine VCall.go Tryd.func148 rfl ?_
    repeat' (first | with_reducible refine And.intro ?_ ?_ | ((with_reducible intro hc); (try simp only [zA, zB, zC, zD, zE, zF, zG, zH, zI, zJ, zK, zL, zM, zN, zO, zP, zQ, zR, zS, zT, zU, zV, zW] at hc); (first | (exact absurd rfl hc) | (exact absurd trivial hc) | (exfalso; omega) | skip)) | ((conv => whnf); first | with_reducible refine And.intro ?_ ?_ | refine ifB_intro ?_ ?_ | refine xA (by omega) ?_ | ((refine xB ?_); intro kw hk1 hk2) | refine xC (by omega) ?_ | refine xD ?_ | refine xE (by omega) ?_ | refine xF (by omega) ?_ | refine xG ?_ | refine xH ?_ | refine xI (by omega) ?_ | refine xJ (by omega) ?_ | (with_reducible refine stopA ?_) | refine Exists.intro _ (And.intro (by (first | exact vat_of vagg_u (mapu_at hg) (mul1 rfl (by omega)) | rfl)) ?_) | refine GOp.via (by rfl) ?_ | (with_reducible first | refine stopO ?_ | refine stopE ?_ | refine stopD ?_ | refine stopW ?_ | refine stopG ?_ | refine stopC ?_ | refine stopR ?_)))
    all_goals (first | omega | skip)
    exact Done'.mk ⟨rfl, rfl⟩
  · have e : l.getD i 0 = 0 := by simp [List.getD, List.getElem?_eq_none (Nat.le_of_not_lt hi)]
    rw [e]
    refine VCall.go Tryd.func148 rfl ?_
    repeat' (first | with_reducible refine And.intro ?_ ?_ | ((with_reducible intro hc); (try simp only [zA, zB, zC, zD, zE, zF, zG, zH, zI, zJ, zK, zL, zM, zN, zO, zP, zQ, zR, zS, zT, zU, zV, zW] at hc); (first | (exact absurd rfl hc) | (exact absurd trivial hc) | (exfalso; omega) | skip)) | ((conv => whnf); first | with_reducible refine And.intro ?_ ?_ | refine ifB_intro ?_ ?_ | refine xA (by omega) ?_ | ((refine xB ?_); intro kw hk1 hk2) | refine xC (by omega) ?_ | refine xD ?_ | refine xE (by omega) ?_ | refine xF (by omega) ?_ | refine xG ?_ | refine xH ?_ | refine xI (by omega) ?_ | refine xJ (by omega) ?_ | (with_reducible refine stopA ?_) | refine Exists.intro _ (And.intro (by rfl) ?_) | refine GOp.via (by rfl) ?_ | (with_reducible first | refine stopO ?_ | refine stopE ?_ | refine stopD ?_ | refine stopW ?_ | refine stopG ?_ | refine stopC ?_ | refine stopR ?_)))
    all_goals (first | omega | skip)
    exact Done'.mk ⟨rfl, rfl⟩
theorem wide_call (a b : Nat) (ha : a < 1099511627776) (hb : b < 65536) (H : Heap) : VCall Tryd.prog 180 [uV a, uV b] H (fun v K => v = .tp [uV 0, uV (a * b)] ∧ K = H) := by
  have h1 := shr_u64 (a := a) (k := 32) (by omega)
  have e32 : ((32 : Nat) : Int) = 32 := rfl
  rw [e32] at h1
  have h2 := and_u64 (a := a) (b := 4294967295) (by omega) (by omega)
  have e4 : ((4294967295 : Nat) : Int) = 4294967295 := rfl
  rw [e4, show (4294967295 : Nat) = 2 ^ 32 - 1 by rfl, Nat.and_two_pow_sub_one_eq_mod] at h2
  have hq : a / 2 ^ 32 < 256 := by omega
  have hm : a % 2 ^ 32 < 4294967296 := by omega
  have b1 : a / 2 ^ 32 * b ≤ 255 * 65535 := Nat.mul_le_mul (by omega) (by omega)
  have b2 : a % 2 ^ 32 * b ≤ 4294967295 * 65535 := Nat.mul_le_mul (by omega) (by omega)
  have e1 : shrZ .u64 (a : Int) 32 * (b : Int) = ((a / 2 ^ 32 * b : Nat) : Int) := by rw [h1]; exact (Int.natCast_mul _ _).symm
  have e2 : bitZ .and .u64 (a : Int) 4294967295 * (b : Int) = ((a % 2 ^ 32 * b : Nat) : Int) := by rw [h2]; exact (Int.natCast_mul _ _).symm
  have h3 := shl_u64 (a := a / 2 ^ 32 * b) (k := 32) (by omega) (by omega)
  rw [e32, ← e1] at h3
  have h4 := shr_u64 (a := a / 2 ^ 32 * b) (k := 32) (by omega)
  rw [e32, ← e1] at h4
  have hz : a / 2 ^ 32 * b / 2 ^ 32 = 0 := by omega
  rw [hz] at h4
  have hs : a * b = a % 2 ^ 32 * b + a / 2 ^ 32 * b * 2 ^ 32 := by
    have := Nat.mod_add_div a (2 ^ 32)
    rw [Nat.mul_right_comm, Nat.mul_comm (a / 2 ^ 32), ← Nat.add_mul, this]
  refine VCall.go Tryd.func180 rfl ?_
  repeat' (first | with_reducible refine And.intro ?_ ?_ | ((with_reducible intro hc); (try simp only [zA, zB, zC, zD, zE, zF, zG, zH, zI, zJ, zK, zL, zM, zN, zO, zP, zQ, zR, zS, zT, zU, zV, zW] at hc); (first | (exact absurd rfl hc) | (exact absurd trivial hc) | (exfalso; omega) | skip)) | ((conv => whnf); first | with_reducible refine And.intro ?_ ?_ | refine ifB_intro ?_ ?_ | refine xA (by omega) ?_ | ((refine xB ?_); intro kw hk1 hk2) | refine xC (by omega) ?_ | refine xD ?_ | refine xE (by omega) ?_ | refine xF (by omega) ?_ | refine xG ?_ | refine xH ?_ | refine xI (by omega) ?_ | refine xJ (by omega) ?_ | (with_reducible refine stopA ?_) | refine Exists.intro _ (And.intro (by rfl) ?_) | refine GOp.via (by rfl) ?_ | (with_reducible first | refine stopO ?_ | refine stopE ?_ | refine stopD ?_ | refine stopW ?_ | refine stopG ?_ | refine stopC ?_ | refine stopR ?_)))
  all_goals (first | omega | skip)
  refine Done'.mk ⟨tp2 (scI_eq ?_) (scI_eq ?_), rfl⟩
  · exact h4
  · show bitZ .and .u64 (a : Int) 4294967295 * (b : Int) + shlZ .u64 (shrZ .u64 (a : Int) 32 * (b : Int)) 32 = _
    rw [e2, h3, hs]
    exact (Int.natCast_add _ _).symm
theorem and16 {a : Nat} (ha : a < 18446744073709551616) : bitZ .and .u64 (a : Int) 65535 = ((a % 65536 : Nat) : Int) := by
  have h2 := and_u64 (a := a) (b := 65535) (by omega) (by omega)
  have e4 : ((65535 : Nat) : Int) = 65535 := rfl
  rw [e4, show (65535 : Nat) = 2 ^ 16 - 1 by rfl, Nat.and_two_pow_sub_one_eq_mod] at h2
  exact h2
theorem shr16 {a : Nat} : shrZ .u64 (a : Int) 16 = ((a / 65536 : Nat) : Int) := by
  have h1 := shr_u64 (a := a) (k := 16) (by omega)
  have e : ((16 : Nat) : Int) = 16 := rfl
  rw [e] at h1
  exact h1
theorem shl48 : shlZ .u64 0 48 = 0 := by
  have h1 := shl_u64 (a := 0) (k := 48) (by omega) (by omega)
  exact h1
theorem or_zero {a : Nat} (ha : a < 18446744073709551616) : bitZ .or .u64 (a : Int) 0 = (a : Int) := by
  have h1 := or_u64 (a := a) (b := 0) (by omega) (by omega)
  rw [Nat.or_zero] at h1
  exact h1
/-- What is still to come. -/
def remD (y : Nat) (l : List Nat) (i c : Nat) : List Nat := if i < l.length then tmD y (l.drop i) c else cgD (l.length + 3 - i) c
theorem remD_next {y : Nat} {l : List Nat} {i c : Nat} (h : i < l.length) : remD y l i c = (y * l.getD i 0 + c) % 65536 :: remD y l (i + 1) ((y * l.getD i 0 + c) / 65536) := by
  have hd : l.getD i 0 = l[i] := by simp [List.getD, List.getElem?_eq_getElem h]
  rw [hd]
  unfold remD
  rw [if_pos h, List.drop_eq_getElem_cons h]
  simp only [tmD]
  split
  · rfl
  · rw [List.drop_eq_nil_of_le (by omega), show l.length + 3 - (i + 1) = 3 by omega]
    rfl
theorem remD_tail {y : Nat} {l : List Nat} {i c : Nat} (h : ¬ i < l.length) (h3 : i < l.length + 3) (hc : c ≠ 0) : remD y l i c = (y * l.getD i 0 + c) % 65536 :: remD y l (i + 1) ((y * l.getD i 0 + c) / 65536) := by
  have hd : l.getD i 0 = 0 := by simp [List.getD, List.getElem?_eq_none (Nat.le_of_not_lt h)]
  rw [hd, Nat.mul_zero, Nat.zero_add]
  unfold remD
  rw [if_neg h, if_neg (by omega), show l.length + 3 - i = (l.length + 3 - (i + 1)) + 1 by omega]
  simp only [cgD]
  rw [if_neg hc]
theorem remD_end {y : Nat} {l : List Nat} {i : Nat} (h : ¬ i < l.length) : remD y l i 0 = [] := by
  unfold remD
  rw [if_neg h]
  cases l.length + 3 - i with
  | zero => rfl
  | succ n => simp [cgD]

theorem times_call (y : Nat) (hy : y < 1099511627776) (l : List Nat) (hl : okD l) (hn : l.length ≤ 1000) (H : Heap) : VCall Tryd.prog 146 [roU l, uV y] H (fun v K => v = roU (tmD y l 0) ∧ K = H) := by
  refine VCall.frozen (Q := fun v K => Frz K v (roU (tmD y l 0))) (by simp [nameless_roU, nameless_uV]) ?_ (fun v K h => h)
  refine VCall.go Tryd.func146 rfl ?_
  repeat' (first | with_reducible refine And.intro ?_ ?_ | ((with_reducible intro hc); (try simp only [zA, zB, zC, zD, zE, zF, zG, zH, zI, zJ, zK, zL, zM, zN, zO, zP, zQ, zR, zS, zT, zU, zV, zW] at hc); (first | (exact absurd rfl hc) | (exact absurd trivial hc) | (exfalso; omega) | skip)) | ((conv => whnf); first | with_reducible refine And.intro ?_ ?_ | refine ifB_intro ?_ ?_ | refine xA (by omega) ?_ | ((refine xB ?_); intro kw hk1 hk2) | refine xC (by omega) ?_ | refine xD ?_ | refine xE (by omega) ?_ | refine xF (by omega) ?_ | refine xG ?_ | refine xH ?_ | refine xI (by omega) ?_ | refine xJ (by omega) ?_ | (with_reducible refine stopA ?_) | refine Exists.intro _ (And.intro (by rfl) ?_) | refine GOp.via (by rfl) ?_ | (with_reducible first | refine stopO ?_ | refine stopE ?_ | refine stopD ?_ | refine stopW ?_ | refine stopG ?_ | refine stopC ?_ | refine stopR ?_)))
  (refine GWP'.mk (GWP.loopB [0] (fun (a : List Nat × Nat × Nat) => a.1 ++ remD y l a.2.1 a.2.2 = tmD y l 0 ∧ a.2.1 ≤ l.length + 3 ∧ a.1.length = a.2.1 ∧ a.2.2 ≤ y ∧ (l.length ≤ a.2.1 → a.2.2 < 65536 ^ (l.length + 3 - a.2.1))) (fun a => [(5, .gs 1 a.1.length 1), (6, uV a.2.2), (7, iV a.2.1)]) (fun a => [(1, .opt (a.1.map uV))]) 2 (fun a => l.length + 3 - a.2.1) ([], 0, 0) ⟨by
    show [] ++ remD y l 0 0 = _
    unfold remD
    split
    · rfl
    · rename_i h
      have : l = [] := List.eq_nil_of_length_eq_zero (by omega)
      subst this
      rfl, Nat.zero_le _, rfl, Nat.zero_le _, fun _ => Nat.pow_pos (by omega)⟩ ?_); (conv => whnf); refine And.intro ?_ ?_)
  · focus (refine KeptA.of [] rfl rfl (by repeat' (first | exact trivial | refine And.intro rfl ?_)) rfl ?_ ?_; all_goals (repeat' (first | exact trivial | (refine And.intro ?_ ?_) | (refine Exists.intro _ (And.intro rfl ?_)) | (refine RenO.opt ?_) | (refine RenO.toOpt ?_) | (refine RenO.cells ?_) | exact RenO.defs | exact RenL.nil | (refine RenL.cons ?_ ?_) | (first | (refine RenL.eq (by simp) (nameless_map nameless_uV _)) | (with_reducible exact RenV.sc) | exact RenV.gsN | exact RenV.gsZ | exact RenV.gsL (by decide) | exact RenV.slL (by decide) | ((first | refine RenV.gsE (by (first | exact List.Mem.head _ | exact List.Mem.tail _ (List.Mem.head _) | exact List.Mem.tail _ (List.Mem.tail _ (List.Mem.head _)) | (simp; done))) ?_ | refine RenV.eq (scI_eq ?_) (nameless_sc _)); (first | rfl | omega | (simp only [List.length_append, List.length_cons, List.length_nil, List.length_map, List.length_take, List.length_drop] <;> omega) | (simp only <;> omega) | (simp <;> omega))) | exact RenV.undef) | (with_unfolding_all exact (rfl : (_ : VObj) = _)))))
  rintro ⟨out, i, c⟩ ⟨h1, h2, h3, h4, h5⟩
  simp only at h1 h2 h3 h4 h5 ⊢
  have hgo : (i < l.length ∨ 0 < c) → i < l.length + 3 ∧ remD y l i c = (y * l.getD i 0 + c) % 65536 :: remD y l (i + 1) ((y * l.getD i 0 + c) / 65536) ∧ l.getD i 0 < 65536 ∧ (l.length ≤ i + 1 → (y * l.getD i 0 + c) / 65536 < 65536 ^ (l.length + 3 - (i + 1))) := fun h => by
    have hd : l.getD i 0 < 65536 := by
      by_cases hi : i < l.length
      · have : l.getD i 0 = l[i] := by simp [List.getD, List.getElem?_eq_getElem hi]
        rw [this]
        exact hl _ (List.getElem_mem _)
      · simp [List.getD, List.getElem?_eq_none (Nat.le_of_not_lt hi)]
    by_cases hi : i < l.length
    · refine ⟨by omega, remD_next hi, hd, fun h7 => ?_⟩
      rw [show l.length + 3 - (i + 1) = 3 by omega]
      have := carry_le hd h4
      omega
    · have hc0 : 0 < c := by omega
      have h6 : i < l.length + 3 := by
        rcases Nat.lt_or_ge i (l.length + 3) with g | g
        · exact g
        · have := h5 (by omega)
          rw [show l.length + 3 - i = 0 by omega] at this
          omega
      refine ⟨h6, remD_tail hi h6 (by omega), hd, fun h7 => ?_⟩
      have h8 := h5 (by omega)
      have : l.getD i 0 = 0 := by simp [List.getD, List.getElem?_eq_none (Nat.le_of_not_lt hi)]
      rw [this, Nat.mul_zero, Nat.zero_add]
      rw [show l.length + 3 - i = (l.length + 3 - (i + 1)) + 1 by omega, Nat.pow_succ] at h8
      exact Nat.div_lt_of_lt_mul (by rw [Nat.mul_comm]; exact h8)
  have hst : ¬ (i < l.length ∨ 0 < c) → out = tmD y l 0 := fun h => by
    obtain rfl : c = 0 := by omega
    rw [remD_end (by omega), List.append_nil] at h1
    exact h1
  clear h5
  by_cases hcond : i < l.length ∨ 0 < c
  · obtain ⟨g1, g2, g3, g4⟩ := hgo hcond
    clear hgo hst
    rw [g2] at h1
    have g5 := carry_le g3 h4
    have hdc := digit_call l i
    generalize l.getD i 0 = d at *
    have hwc := wide_call y d hy g3
    have b1 : y * d ≤ 72056494543077376 := Nat.le_trans (Nat.mul_le_mul (show y ≤ 1099511627775 by omega) (show d ≤ 65535 by omega)) (by decide)
    generalize hp : y * d = p at *
    have hpc : ((p + c : Nat) : Int) = (p : Int) + (c : Int) := Int.natCast_add _ _
    have a1 := and16 (a := p + c) (by omega)
    rw [hpc] at a1
    have a2 := shr16 (a := p + c)
    rw [hpc] at a2
    have a3 := shl48
    have hv : uV ((p + c) % 65536) = .sc (.int .u64 (bitZ .and .u64 ((p : Int) + (c : Int)) 65535)) := scI_eq a1.symm
    have hw : bitZ .or .u64 (shrZ .u64 ((p : Int) + (c : Int)) 16) (shlZ .u64 0 48) = (((p + c) / 65536 : Nat) : Int) := by
      rw [a2, a3]
      exact or_zero (by omega)
    have hrow : out.map uV ++ [.sc (.int .u64 (bitZ .and .u64 ((p : Int) + (c : Int)) 65535))] = (out ++ [(p + c) % 65536]).map uV := by rw [← hv]; simp
    have hlo : (out.map uV).length = i * 1 := by simp [h3]
    have ho2 : (out ++ [(p + c) % 65536]).length = out.length + 1 := by simp
    repeat' (first | with_reducible refine And.intro ?_ ?_ | ((with_reducible intro hc); (try simp only [zA, zB, zC, zD, zE, zF, zG, zH, zI, zJ, zK, zL, zM, zN, zO, zP, zQ, zR, zS, zT, zU, zV, zW] at hc); (first | (exact absurd rfl hc) | (exact absurd trivial hc) | (exfalso; omega) | skip)) | exact Is.mk rfl rfl | ((conv => whnf); first | with_reducible refine And.intro ?_ ?_ | with_reducible intro hx | exact Is.mk rfl rfl | (with_reducible first | apply Val.via | apply ValH.via) | refine ifB_intro ?_ ?_ | refine xA (by omega) ?_ | ((refine xB ?_); intro kw hk1 hk2) | refine xC (by omega) ?_ | refine xD ?_ | refine xE (by omega) ?_ | refine xF (by omega) ?_ | refine xG ?_ | refine xH ?_ | refine xI (by omega) ?_ | refine xJ (by omega) ?_ | (with_reducible refine stopA ?_) | refine Exists.intro _ (And.intro (by (first | rfl)) ?_) | refine GOp.drawn (by rfl) (by rfl) (Nat.le_of_ble_eq_true (by rfl)) (by rfl) | refine GOp.via (by rfl) ?_ | refine GWP.drawY mixed _ (by kernel_rfl) (by rfl) ?_ | (first | (refine GCall.mk ((hdc _).mono ?_); rintro _ _ ⟨rfl, rfl⟩) | (refine GCall.mk ((hwc _).mono ?_); rintro _ _ ⟨rfl, rfl⟩) | (refine stopO (GOp'.grow rfl sty_u (d := .slice 114) Tryd.underlying112 (by intro k h; cases h) rfl (m := 1) (l := [.sc (.int .u64 (bitZ .and .u64 ((p : Int) + (c : Int)) 65535))]) (by rfl) (by rfl) rfl (by simp) (by omega) (by omega) ?_))) | (with_reducible first | refine stopO ?_ | refine stopE ?_ | refine stopD ?_ | refine stopW ?_ | refine stopG ?_ | refine stopC ?_ | refine stopR ?_)))
    all_goals (first | omega | skip)
    all_goals (focus (refine Done'.mk ⟨(out ++ [(p + c) % 65536], i + 1, (p + c) / 65536), ⟨by simp only; rw [← h1]; simp, by simp only; omega, by simp only; omega, by simp only; omega, fun h => g4 h⟩, ?_, KeptA.of [(3, 1)] rfl rfl (by repeat' (first | exact trivial | refine And.intro rfl ?_)) rfl ?_ ?_⟩; (first | omega | (simp only; omega)); all_goals (repeat' (first | exact trivial | (refine And.intro ?_ ?_) | (refine Exists.intro _ (And.intro rfl ?_)) | (refine RenO.opt ?_) | (refine RenO.toOpt ?_) | (refine RenO.cells ?_) | exact RenO.defs | exact RenL.nil | (refine RenL.cons ?_ ?_) | (first | (first | exact RenL.eq hrow (nameless_map nameless_uV _) | exact RenV.gsE (List.Mem.head _) ho2.symm | exact RenV.eq (scI_eq hw) (nameless_sc _)) | (with_reducible exact RenV.sc) | exact RenV.gsN | exact RenV.gsZ | exact RenV.gsL (by decide) | exact RenV.slL (by decide) | ((first | refine RenV.gsE (by (first | exact List.Mem.head _ | exact List.Mem.tail _ (List.Mem.head _) | exact List.Mem.tail _ (List.Mem.tail _ (List.Mem.head _)) | (simp; done))) ?_ | refine RenV.eq (scI_eq ?_) (nameless_sc _)); (first | rfl | omega | (simp only [List.length_append, List.length_cons, List.length_nil, List.length_map, List.length_take, List.length_drop] <;> omega) | (simp only <;> omega) | (simp <;> omega))) | exact RenV.undef) | (with_unfolding_all exact (rfl : (_ : VObj) = _))))))
  · have hst := hst hcond
    subst hst
    obtain rfl : c = 0 := by omega
    clear hgo
    repeat' (first | with_reducible refine And.intro ?_ ?_ | ((with_reducible intro hc); (try simp only [zA, zB, zC, zD, zE, zF, zG, zH, zI, zJ, zK, zL, zM, zN, zO, zP, zQ, zR, zS, zT, zU, zV, zW] at hc); (first | (exact absurd rfl hc) | (exact absurd trivial hc) | (exfalso; omega) | skip)) | exact Is.mk rfl rfl | ((conv => whnf); first | with_reducible refine And.intro ?_ ?_ | with_reducible intro hx | exact Is.mk rfl rfl | (with_reducible first | apply Val.via | apply ValH.via) | refine ifB_intro ?_ ?_ | refine xA (by omega) ?_ | ((refine xB ?_); intro kw hk1 hk2) | refine xC (by omega) ?_ | refine xD ?_ | refine xE (by omega) ?_ | refine xF (by omega) ?_ | refine xG ?_ | refine xH ?_ | refine xI (by omega) ?_ | refine xJ (by omega) ?_ | (with_reducible refine stopA ?_) | refine Exists.intro _ (And.intro (by rfl) ?_) | refine GOp.drawn (by rfl) (by rfl) (Nat.le_of_ble_eq_true (by rfl)) (by rfl) | refine GOp.via (by rfl) ?_ | refine GWP.drawY mixed _ (by kernel_rfl) (by rfl) ?_ | fail | (with_reducible first | refine stopO ?_ | refine stopE ?_ | refine stopD ?_ | refine stopW ?_ | refine stopG ?_ | refine stopC ?_ | refine stopR ?_)))
    all_goals (first | omega | skip)
    exact Done'.mk (Frz.gs rfl (by simp) (nameless_map nameless_uV _))
end Go.Proofs.YtmmjgbdihgdekaaDoor

/- The document's roots and primes, walked. -/
namespace Go.Proofs.YtmmjgbdihgdekaaDoor
open Go Go.RowKit
set_option linter.unusedSimpArgs false
set_option linter.unusedVariables false
set_option maxRecDepth 100000
set_option maxHeartbeats 4000000
theorem shifted_call (p k : Nat) (hp : p < 18446744073709551616) (hk : k ≤ 100) (z : Int) (hz : z = 16 * (k : Int)) (H : Heap) : VCall Tryd.prog 147 [uV p, iV z] H (fun v K => v = roU (shD p k) ∧ K = H) := by
  refine VCall.frozen (Q := fun v K => Frz K v (roU (shD p k))) (by simp [nameless_uV]; exact nameless_sc _) ?_ (fun v K h => h)
  refine VCall.go Tryd.func147 rfl ?_
  have hq : z / 16 = (k : Int) := by omega
  have hz0 : 0 ≤ z ∧ z < 100000 := by omega
  have ha := and16 hp
  have hrow : ∀ j, (List.replicate j 0).map uV ++ [uV 0] = (List.replicate (j + 1) 0).map uV := fun j => by simp [List.replicate_succ']
  have hend : (List.replicate k 0).map uV ++ [.sc (.int .u64 (bitZ .and .u64 (p : Int) 65535))] = (shD p k).map uV := by
    rw [ha]; unfold shD; simp [uV]
  repeat' (first | with_reducible refine And.intro ?_ ?_ | ((with_reducible intro hc); (try simp only [zA, zB, zC, zD, zE, zF, zG, zH, zI, zJ, zK, zL, zM, zN, zO, zP, zQ, zR, zS, zT, zU, zV, zW] at hc); (first | (exact absurd rfl hc) | (exact absurd trivial hc) | (exfalso; omega) | skip)) | ((conv => whnf); first | with_reducible refine And.intro ?_ ?_ | refine ifB_intro ?_ ?_ | refine xA (by omega) ?_ | ((refine xB ?_); intro kw hk1 hk2) | refine xC (by omega) ?_ | refine xD ?_ | refine xE (by omega) ?_ | refine xF (by omega) ?_ | refine xG ?_ | refine xH ?_ | refine xI (by omega) ?_ | refine xJ (by omega) ?_ | (with_reducible refine stopA ?_) | refine Exists.intro _ (And.intro (by rfl) ?_) | refine GOp.via (by rfl) ?_ | (with_reducible first | refine stopO ?_ | refine stopE ?_ | refine stopD ?_ | refine stopW ?_ | refine stopG ?_ | refine stopC ?_ | refine stopR ?_)))
  (refine GWP'.mk (GWP.loopB [0] (fun (j : Nat) => j ≤ k) (fun (j : Nat) => [(5, .gs 1 j 1), (6, iV j)]) (fun (j : Nat) => [(1, .opt ((List.replicate j 0).map uV))]) 2 (fun (j : Nat) => k - j) 0 (Nat.zero_le _) ?_); (conv => whnf); refine And.intro ?_ ?_)
  · focus (refine KeptA.of [] rfl rfl (by repeat' (first | exact trivial | refine And.intro rfl ?_)) rfl ?_ ?_; all_goals (repeat' (first | exact trivial | (refine And.intro ?_ ?_) | (refine Exists.intro _ (And.intro rfl ?_)) | (refine RenO.opt ?_) | (refine RenO.toOpt ?_) | (refine RenO.cells ?_) | exact RenO.defs | exact RenL.nil | (refine RenL.cons ?_ ?_) | (first | fail | (with_reducible exact RenV.sc) | exact RenV.gsN | exact RenV.gsZ | exact RenV.gsL (by decide) | exact RenV.slL (by decide) | ((first | refine RenV.gsE (by (first | exact List.Mem.head _ | exact List.Mem.tail _ (List.Mem.head _) | exact List.Mem.tail _ (List.Mem.tail _ (List.Mem.head _)) | (simp; done))) ?_ | refine RenV.eq (scI_eq ?_) (nameless_sc _)); (first | rfl | omega | (simp only [List.length_append, List.length_cons, List.length_nil, List.length_map, List.length_take, List.length_drop] <;> omega) | (simp only <;> omega) | (simp <;> omega))) | exact RenV.undef) | (with_unfolding_all exact (rfl : (_ : VObj) = _)))))
  rintro j hj
  have hlj : ((List.replicate j 0).map uV).length = j * 1 := by simp
  by_cases hjk : j < k
  · repeat' (first | with_reducible refine And.intro ?_ ?_ | ((with_reducible intro hc); (try simp only [zA, zB, zC, zD, zE, zF, zG, zH, zI, zJ, zK, zL, zM, zN, zO, zP, zQ, zR, zS, zT, zU, zV, zW] at hc); (first | (exact absurd rfl hc) | (exact absurd trivial hc) | (exfalso; omega) | skip)) | exact Is.mk rfl rfl | ((conv => whnf); first | with_reducible refine And.intro ?_ ?_ | with_reducible intro hx | exact Is.mk rfl rfl | (with_reducible first | apply Val.via | apply ValH.via) | refine ifB_intro ?_ ?_ | refine xA (by omega) ?_ | ((refine xB ?_); intro kw hk1 hk2) | refine xC (by omega) ?_ | refine xD ?_ | refine xE (by omega) ?_ | refine xF (by omega) ?_ | refine xG ?_ | refine xH ?_ | refine xI (by omega) ?_ | refine xJ (by omega) ?_ | (with_reducible refine stopA ?_) | refine Exists.intro _ (And.intro (by (first | rfl)) ?_) | refine GOp.drawn (by rfl) (by rfl) (Nat.le_of_ble_eq_true (by rfl)) (by rfl) | refine GOp.via (by rfl) ?_ | refine GWP.drawY mixed _ (by kernel_rfl) (by rfl) ?_ | (refine stopO (GOp'.grow rfl sty_u (d := .slice 114) Tryd.underlying112 (by intro k h; cases h) rfl (m := 1) (l := [uV 0]) (by rfl) (by rfl) rfl (by simp) (by omega) (by omega) ?_)) | (with_reducible first | refine stopO ?_ | refine stopE ?_ | refine stopD ?_ | refine stopW ?_ | refine stopG ?_ | refine stopC ?_ | refine stopR ?_)))
    all_goals (first | omega | skip)
    focus (refine Done'.mk ⟨(j + 1), (by omega), ?_, KeptA.of [(3, 1)] rfl rfl (by repeat' (first | exact trivial | refine And.intro rfl ?_)) rfl ?_ ?_⟩; (first | omega | (simp only; omega)); all_goals (repeat' (first | exact trivial | (refine And.intro ?_ ?_) | (refine Exists.intro _ (And.intro rfl ?_)) | (refine RenO.opt ?_) | (refine RenO.toOpt ?_) | (refine RenO.cells ?_) | exact RenO.defs | exact RenL.nil | (refine RenL.cons ?_ ?_) | (first | (first | exact RenL.eq (hrow j) (nameless_map nameless_uV _)) | (with_reducible exact RenV.sc) | exact RenV.gsN | exact RenV.gsZ | exact RenV.gsL (by decide) | exact RenV.slL (by decide) | ((first | refine RenV.gsE (by (first | exact List.Mem.head _ | exact List.Mem.tail _ (List.Mem.head _) | exact List.Mem.tail _ (List.Mem.tail _ (List.Mem.head _)) | (simp; done))) ?_ | refine RenV.eq (scI_eq ?_) (nameless_sc _)); (first | rfl | omega | (simp only [List.length_append, List.length_cons, List.length_nil, List.length_map, List.length_take, List.length_drop] <;> omega) | (simp only <;> omega) | (simp <;> omega))) | exact RenV.undef) | (with_unfolding_all exact (rfl : (_ : VObj) = _)))))
  · obtain rfl : j = k := by omega
    clear hq
    repeat' (first | with_reducible refine And.intro ?_ ?_ | ((with_reducible intro hc); (try simp only [zA, zB, zC, zD, zE, zF, zG, zH, zI, zJ, zK, zL, zM, zN, zO, zP, zQ, zR, zS, zT, zU, zV, zW] at hc); (first | (exact absurd rfl hc) | (exact absurd trivial hc) | (exfalso; omega) | skip)) | exact Is.mk rfl rfl | ((conv => whnf); first | with_reducible refine And.intro ?_ ?_ | with_reducible intro hx | exact Is.mk rfl rfl | (with_reducible first | apply Val.via | apply ValH.via) | refine ifB_intro ?_ ?_ | refine xA (by omega) ?_ | ((refine xB ?_); intro kw hk1 hk2) | refine xC (by omega) ?_ | refine xD ?_ | refine xE (by omega) ?_ | refine xF (by omega) ?_ | refine xG ?_ | refine xH ?_ | refine xI (by omega) ?_ | refine xJ (by omega) ?_ | (with_reducible refine stopA ?_) | refine Exists.intro _ (And.intro (by (first | rfl)) ?_) | refine GOp.drawn (by rfl) (by rfl) (Nat.le_of_ble_eq_true (by rfl)) (by rfl) | refine GOp.via (by rfl) ?_ | refine GWP.drawY mixed _ (by kernel_rfl) (by rfl) ?_ | (refine stopO (GOp'.grow rfl sty_u (d := .slice 114) Tryd.underlying112 (by intro k h; cases h) rfl (m := 1) (l := [.sc (.int .u64 (bitZ .and .u64 (p : Int) 65535))]) (by rfl) (by rfl) rfl (by simp) (by omega) (by omega) ?_)) | (with_reducible first | refine stopO ?_ | refine stopE ?_ | refine stopD ?_ | refine stopW ?_ | refine stopG ?_ | refine stopC ?_ | refine stopR ?_)))
    all_goals (first | omega | skip)
    refine Done'.mk ?_
    have e : roU (shD p j) = .ro (j + 1) ((List.replicate j 0).map uV ++ [.sc (.int .u64 (bitZ .and .u64 (p : Int) 65535))]) := by
      unfold roU
      rw [hend]
      simp [shD]
    rw [e]
    exact Frz.gs rfl (by simp) (by rw [hend]; exact nameless_map nameless_uV _)
theorem powD (n : Nat) : 65536 ^ (2 * n) = 4294967296 ^ n := by
  rw [Nat.pow_mul]
theorem below_call (y p n : Nat) (hy : y < 68719476736) (hp : p < 65536) (hn : n ≤ 3) (z : Int) (hz : z = (y : Int)) (H : Heap) : VCall Tryd.prog 114 [.sc (.int .u64 z), uV p, iV n] H (fun v K => v = booV (belD y p n) ∧ K = H) := by
  subst hz
  refine VCall.pure (by intro v hv; simp at hv; rcases hv with rfl | rfl | rfl <;> exact nameless_sc _) (nameless_sc _) ?_
  have hval : valD (pwD y n) = y ^ n := pwD_val (by omega) n
  have hwal : valD (shD p (2 * n)) = 4294967296 ^ n * p := by rw [shD_val, powD, Nat.mod_eq_of_lt hp]
  have hbel : belD y p n = decide (valD (pwD y n) ≤ valD (shD p (2 * n))) := by rw [hval, hwal]; exact ble_dec _ _
  rw [hbel]
  have hlok := pwD_ok y n
  have hwok := shD_ok p (2 * n)
  have hll : (pwD y n).length ≤ 16 := by have := pwD_len y n; omega
  have hwl : (shD p (2 * n)).length ≤ 16 := by simp [shD]; omega
  have hsh := shifted_call p (2 * n) (by omega) (by omega) (32 * (n : Int)) (by omega)
  refine VCall.go Tryd.func114 rfl ?_
  repeat' (first | with_reducible refine And.intro ?_ ?_ | ((with_reducible intro hc); (try simp only [zA, zB, zC, zD, zE, zF, zG, zH, zI, zJ, zK, zL, zM, zN, zO, zP, zQ, zR, zS, zT, zU, zV, zW] at hc); (first | (exact absurd rfl hc) | (exact absurd trivial hc) | (exfalso; omega) | skip)) | ((conv => whnf); first | with_reducible refine And.intro ?_ ?_ | refine ifB_intro ?_ ?_ | refine xA (by omega) ?_ | ((refine xB ?_); intro kw hk1 hk2) | refine xC (by omega) ?_ | refine xD ?_ | refine xE (by omega) ?_ | refine xF (by omega) ?_ | refine xG ?_ | refine xH ?_ | refine xI (by omega) ?_ | refine xJ (by omega) ?_ | (with_reducible refine stopA ?_) | refine Exists.intro _ (And.intro (by rfl) ?_) | (refine stopO (GOp'.fresh (n := 1) (z := 1) (c := some 1) (vs := [uV 1]) (us := [uV 1]) (allRw_of (by rfl)) (by rfl) (by decide) (nameless_map nameless_uV [1]) rfl ?_)) | refine GOp.via (by rfl) ?_ | (with_reducible first | refine stopO ?_ | refine stopE ?_ | refine stopD ?_ | refine stopW ?_ | refine stopG ?_) | fail | (with_reducible refine stopC ?_) | (with_reducible refine stopR ?_)))
  (refine GWP'.mk (GWP.loopB [] (fun (i : Nat) => i ≤ n) (fun (i : Nat) => [(7, roU (pwD y i)), (8, iV i)]) (fun (i : Nat) => []) 1 (fun (i : Nat) => n - i) 0 (Nat.zero_le _) ?_); (conv => whnf); refine And.intro ?_ ?_)
  · focus (refine KeptA.of [] rfl rfl (by repeat' (first | exact trivial | refine And.intro rfl ?_)) rfl ?_ ?_; all_goals (repeat' (first | exact trivial | (refine And.intro ?_ ?_) | (refine Exists.intro _ (And.intro rfl ?_)) | (refine RenO.opt ?_) | (refine RenO.toOpt ?_) | (refine RenO.cells ?_) | exact RenO.defs | exact RenL.nil | (refine RenL.cons ?_ ?_) | (first | exact (RenV.of (nameless_roU [1]) : RenV [] 1 (roU [1]) (roU [1])) | (with_reducible exact RenV.sc) | exact RenV.gsN | exact RenV.gsZ | exact RenV.gsL (by decide) | exact RenV.slL (by decide) | ((first | refine RenV.gsE (by (first | exact List.Mem.head _ | exact List.Mem.tail _ (List.Mem.head _) | exact List.Mem.tail _ (List.Mem.tail _ (List.Mem.head _)) | (simp; done))) ?_ | refine RenV.eq (scI_eq ?_) (nameless_sc _)); (first | rfl | omega | (simp only [List.length_append, List.length_cons, List.length_nil, List.length_map, List.length_take, List.length_drop] <;> omega) | (simp only <;> omega) | (simp <;> omega))) | exact RenV.undef) | (with_unfolding_all exact (rfl : (_ : VObj) = _)))))
  rintro i hi
  by_cases hin : i < n
  · have hti := times_call y (by omega) (pwD y i) (pwD_ok y i) (by have := pwD_len y i; omega)
    repeat' (first | with_reducible refine And.intro ?_ ?_ | ((with_reducible intro hc); (try simp only [zA, zB, zC, zD, zE, zF, zG, zH, zI, zJ, zK, zL, zM, zN, zO, zP, zQ, zR, zS, zT, zU, zV, zW] at hc); (first | (exact absurd rfl hc) | (exact absurd trivial hc) | (exfalso; omega) | skip)) | exact Is.mk rfl rfl | ((conv => whnf); first | with_reducible refine And.intro ?_ ?_ | with_reducible intro hx | exact Is.mk rfl rfl | (with_reducible first | apply Val.via | apply ValH.via) | refine ifB_intro ?_ ?_ | refine xA (by omega) ?_ | ((refine xB ?_); intro kw hk1 hk2) | refine xC (by omega) ?_ | refine xD ?_ | refine xE (by omega) ?_ | refine xF (by omega) ?_ | refine xG ?_ | refine xH ?_ | refine xI (by omega) ?_ | refine xJ (by omega) ?_ | (with_reducible refine stopA ?_) | refine Exists.intro _ (And.intro (by rfl) ?_) | refine GOp.drawn (by rfl) (by rfl) (Nat.le_of_ble_eq_true (by rfl)) (by rfl) | refine GOp.via (by rfl) ?_ | refine GWP.drawY mixed _ (by kernel_rfl) (by rfl) ?_ | (refine GCall.mk ((hti _).mono ?_); rintro _ _ ⟨rfl, rfl⟩) | (with_reducible first | refine stopO ?_ | refine stopE ?_ | refine stopD ?_ | refine stopW ?_ | refine stopG ?_ | refine stopC ?_ | refine stopR ?_)))
    all_goals (first | omega | skip)
    focus (refine Done'.mk ⟨(i + 1), (by omega), ?_, KeptA.of [] rfl rfl (by repeat' (first | exact trivial | refine And.intro rfl ?_)) rfl ?_ ?_⟩; (first | omega | (simp only; omega)); all_goals (repeat' (first | exact trivial | (refine And.intro ?_ ?_) | (refine Exists.intro _ (And.intro rfl ?_)) | (refine RenO.opt ?_) | (refine RenO.toOpt ?_) | (refine RenO.cells ?_) | exact RenO.defs | exact RenL.nil | (refine RenL.cons ?_ ?_) | (first | exact RenV.of (nameless_roU _) | (with_reducible exact RenV.sc) | exact RenV.gsN | exact RenV.gsZ | exact RenV.gsL (by decide) | exact RenV.slL (by decide) | ((first | refine RenV.gsE (by (first | exact List.Mem.head _ | exact List.Mem.tail _ (List.Mem.head _) | exact List.Mem.tail _ (List.Mem.tail _ (List.Mem.head _)) | (simp; done))) ?_ | refine RenV.eq (scI_eq ?_) (nameless_sc _)); (first | rfl | omega | (simp only [List.length_append, List.length_cons, List.length_nil, List.length_map, List.length_take, List.length_drop] <;> omega) | (simp only <;> omega) | (simp <;> omega))) | exact RenV.undef) | (with_unfolding_all exact (rfl : (_ : VObj) = _)))))
  · obtain rfl : i = n := by omega
    repeat' (first | with_reducible refine And.intro ?_ ?_ | ((with_reducible intro hc); (try simp only [zA, zB, zC, zD, zE, zF, zG, zH, zI, zJ, zK, zL, zM, zN, zO, zP, zQ, zR, zS, zT, zU, zV, zW] at hc); (first | (exact absurd rfl hc) | (exact absurd trivial hc) | (exfalso; omega) | skip)) | exact Is.mk rfl rfl | ((conv => whnf); first | with_reducible refine And.intro ?_ ?_ | with_reducible intro hx | exact Is.mk rfl rfl | (with_reducible first | apply Val.via | apply ValH.via) | refine ifB_intro ?_ ?_ | refine xA (by omega) ?_ | ((refine xB ?_); intro kw hk1 hk2) | refine xC (by omega) ?_ | refine xD ?_ | refine xE (by omega) ?_ | refine xF (by omega) ?_ | refine xG ?_ | refine xH ?_ | refine xI (by omega) ?_ | refine xJ (by omega) ?_ | (with_reducible refine stopA ?_) | refine Exists.intro _ (And.intro (by rfl) ?_) | refine GOp.drawn (by rfl) (by rfl) (Nat.le_of_ble_eq_true (by rfl)) (by rfl) | refine GOp.via (by rfl) ?_ | refine GWP.drawY mixed _ (by kernel_rfl) (by rfl) ?_ | (refine GCall.mk ((hsh _).mono ?_); rintro _ _ ⟨rfl, rfl⟩) | (with_reducible first | refine stopO ?_ | refine stopE ?_ | refine stopD ?_ | refine stopW ?_ | refine stopG ?_ | refine stopC ?_ | refine stopR ?_)))
    all_goals (first | omega | skip)
    generalize pwD y i = l at *
    generalize shD p (2 * i) = w at *
    (refine GWP'.mk (GWP.loopB [] (fun (a : Option Nat) => match a with
      | some k => k ≤ 15 ∧ valD (l.drop (k + 1)) = valD (w.drop (k + 1))
      | none => valD l = valD w) (fun (a : Option Nat) => [(10, match a with
      | some k => iV k
      | none => iV (-1))]) (fun (a : Option Nat) => []) 1 (fun (a : Option Nat) => match a with
      | some k => k + 1
      | none => 0) (some 15) ⟨Nat.le_refl _, by rw [List.drop_eq_nil_of_le (by omega), List.drop_eq_nil_of_le (by omega)]⟩ ?_); (conv => whnf); refine And.intro ?_ ?_)
    · focus (refine KeptA.of [] rfl rfl (by repeat' (first | exact trivial | refine And.intro rfl ?_)) rfl ?_ ?_; all_goals (repeat' (first | exact trivial | (refine And.intro ?_ ?_) | (refine Exists.intro _ (And.intro rfl ?_)) | (refine RenO.opt ?_) | (refine RenO.toOpt ?_) | (refine RenO.cells ?_) | exact RenO.defs | exact RenL.nil | (refine RenL.cons ?_ ?_) | (first | fail | (with_reducible exact RenV.sc) | exact RenV.gsN | exact RenV.gsZ | exact RenV.gsL (by decide) | exact RenV.slL (by decide) | ((first | refine RenV.gsE (by (first | exact List.Mem.head _ | exact List.Mem.tail _ (List.Mem.head _) | exact List.Mem.tail _ (List.Mem.tail _ (List.Mem.head _)) | (simp; done))) ?_ | refine RenV.eq (scI_eq ?_) (nameless_sc _)); (first | rfl | omega | (simp only [List.length_append, List.length_cons, List.length_nil, List.length_map, List.length_take, List.length_drop] <;> omega) | (simp only <;> omega) | (simp <;> omega))) | exact RenV.undef) | (with_unfolding_all exact (rfl : (_ : VObj) = _)))))
    rintro (_ | k) hI
    · simp only at hI ⊢
      repeat' (first | with_reducible refine And.intro ?_ ?_ | ((with_reducible intro hc); (try simp only [zA, zB, zC, zD, zE, zF, zG, zH, zI, zJ, zK, zL, zM, zN, zO, zP, zQ, zR, zS, zT, zU, zV, zW] at hc); (first | (exact absurd rfl hc) | (exact absurd trivial hc) | (exfalso; omega) | skip)) | ((conv => whnf); first | with_reducible refine And.intro ?_ ?_ | refine ifB_intro ?_ ?_ | refine xA (by omega) ?_ | ((refine xB ?_); intro kw hk1 hk2) | refine xC (by omega) ?_ | refine xD ?_ | refine xE (by omega) ?_ | refine xF (by omega) ?_ | refine xG ?_ | refine xH ?_ | refine xI (by omega) ?_ | refine xJ (by omega) ?_ | (with_reducible refine stopA ?_) | refine Exists.intro _ (And.intro (by rfl) ?_) | refine GOp.via (by rfl) ?_ | (with_reducible first | refine stopO ?_ | refine stopE ?_ | refine stopD ?_ | refine stopW ?_ | refine stopG ?_ | refine stopC ?_ | refine stopR ?_)))
      all_goals (first | omega | skip)
      exact Done'.mk (boolV_eq (by simp [hI])).symm
    · simp only at hI ⊢
      obtain ⟨h1, h2⟩ := hI
      have d1 := digit_call l k
      have d2 := digit_call w k
      have hlt : l.getD k 0 < w.getD k 0 → valD l < valD w := fun h => valD_less hlok h2 h
      have hgt : w.getD k 0 < l.getD k 0 → valD w < valD l := fun h => valD_less hwok h2.symm h
      have heq : l.getD k 0 = w.getD k 0 → valD (l.drop k) = valD (w.drop k) := fun h => by rw [valD_drop l k, valD_drop w k, h, h2]
      generalize l.getD k 0 = a at *
      generalize w.getD k 0 = b at *
      repeat' (first | with_reducible refine And.intro ?_ ?_ | ((with_reducible intro hc); (try simp only [zA, zB, zC, zD, zE, zF, zG, zH, zI, zJ, zK, zL, zM, zN, zO, zP, zQ, zR, zS, zT, zU, zV, zW] at hc); (first | (exact absurd rfl hc) | (exact absurd trivial hc) | (exfalso; omega) | skip)) | exact Is.mk rfl rfl | ((conv => whnf); first | with_reducible refine And.intro ?_ ?_ | with_reducible intro hx | exact Is.mk rfl rfl | (with_reducible first | apply Val.via | apply ValH.via) | refine ifB_intro ?_ ?_ | refine xA (by omega) ?_ | ((refine xB ?_); intro kw hk1 hk2) | refine xC (by omega) ?_ | refine xD ?_ | refine xE (by omega) ?_ | refine xF (by omega) ?_ | refine xG ?_ | refine xH ?_ | refine xI (by omega) ?_ | refine xJ (by omega) ?_ | (with_reducible refine stopA ?_) | refine Exists.intro _ (And.intro (by rfl) ?_) | refine GOp.drawn (by rfl) (by rfl) (Nat.le_of_ble_eq_true (by rfl)) (by rfl) | refine GOp.via (by rfl) ?_ | refine GWP.drawY mixed _ (by kernel_rfl) (by rfl) ?_ | (first | (refine GCall.mk ((d1 _).mono ?_); rintro _ _ ⟨rfl, rfl⟩) | (refine GCall.mk ((d2 _).mono ?_); rintro _ _ ⟨rfl, rfl⟩)) | (with_reducible first | refine stopO ?_ | refine stopE ?_ | refine stopD ?_ | refine stopW ?_ | refine stopG ?_ | refine stopC ?_ | refine stopR ?_)))
      all_goals (first | omega | skip)
      · refine Done'.mk ?_
        show VV.sc (.bool (ltZ (a : Int) (b : Int))) = VV.sc (.bool (decide (valD l ≤ valD w)))
        rw [ltZ_eq]
        have : decide ((a : Int) < (b : Int)) = decide (valD l ≤ valD w) := by
          rw [decide_eq_decide]
          constructor
          · intro h; exact Nat.le_of_lt (hlt (by omega))
          · intro h
            rcases Nat.lt_trichotomy a b with g | g | g
            · omega
            · omega
            · have := hgt g; omega
        rw [this]
      · have h3 := heq (by omega)
        cases k with
        | zero => focus (refine Done'.mk ⟨(none), (by simpa using h3), ?_, KeptA.of [] rfl rfl (by repeat' (first | exact trivial | refine And.intro rfl ?_)) rfl ?_ ?_⟩; (first | omega | (simp only; omega)); all_goals (repeat' (first | exact trivial | (refine And.intro ?_ ?_) | (refine Exists.intro _ (And.intro rfl ?_)) | (refine RenO.opt ?_) | (refine RenO.toOpt ?_) | (refine RenO.cells ?_) | exact RenO.defs | exact RenL.nil | (refine RenL.cons ?_ ?_) | (first | fail | (with_reducible exact RenV.sc) | exact RenV.gsN | exact RenV.gsZ | exact RenV.gsL (by decide) | exact RenV.slL (by decide) | ((first | refine RenV.gsE (by (first | exact List.Mem.head _ | exact List.Mem.tail _ (List.Mem.head _) | exact List.Mem.tail _ (List.Mem.tail _ (List.Mem.head _)) | (simp; done))) ?_ | refine RenV.eq (scI_eq ?_) (nameless_sc _)); (first | rfl | omega | (simp only [List.length_append, List.length_cons, List.length_nil, List.length_map, List.length_take, List.length_drop] <;> omega) | (simp only <;> omega) | (simp <;> omega))) | exact RenV.undef) | (with_unfolding_all exact (rfl : (_ : VObj) = _)))))
        | succ k => focus (refine Done'.mk ⟨(some k), ⟨by omega, h3⟩, ?_, KeptA.of [] rfl rfl (by repeat' (first | exact trivial | refine And.intro rfl ?_)) rfl ?_ ?_⟩; (first | omega | (simp only; omega)); all_goals (repeat' (first | exact trivial | (refine And.intro ?_ ?_) | (refine Exists.intro _ (And.intro rfl ?_)) | (refine RenO.opt ?_) | (refine RenO.toOpt ?_) | (refine RenO.cells ?_) | exact RenO.defs | exact RenL.nil | (refine RenL.cons ?_ ?_) | (first | (exact RenV.eq (scI_eq (by omega)) (nameless_sc _)) | (with_reducible exact RenV.sc) | exact RenV.gsN | exact RenV.gsZ | exact RenV.gsL (by decide) | exact RenV.slL (by decide) | ((first | refine RenV.gsE (by (first | exact List.Mem.head _ | exact List.Mem.tail _ (List.Mem.head _) | exact List.Mem.tail _ (List.Mem.tail _ (List.Mem.head _)) | (simp; done))) ?_ | refine RenV.eq (scI_eq ?_) (nameless_sc _)); (first | rfl | omega | (simp only [List.length_append, List.length_cons, List.length_nil, List.length_map, List.length_take, List.length_drop] <;> omega) | (simp only <;> omega) | (simp <;> omega))) | exact RenV.undef) | (with_unfolding_all exact (rfl : (_ : VObj) = _)))))

theorem root_call (p n : Nat) (hp : p < 65536) (hn : n ≤ 3) (H : Heap) : VCall Tryd.prog 66 [uV p, iV n] H (fun v K => v = .sc (.int .u32 (rootN p n : Nat)) ∧ K = H) := by
  refine VCall.pure (by intro v hv; simp at hv; rcases hv with rfl | rfl <;> exact nameless_sc _) (nameless_sc _) ?_
  refine VCall.go Tryd.func66 rfl ?_
  repeat' (first | with_reducible refine And.intro ?_ ?_ | ((with_reducible intro hc); (try simp only [zA, zB, zC, zD, zE, zF, zG, zH, zI, zJ, zK, zL, zM, zN, zO, zP, zQ, zR, zS, zT, zU, zV, zW] at hc); (first | (exact absurd rfl hc) | (exact absurd trivial hc) | (exfalso; omega) | skip)) | ((conv => whnf); first | with_reducible refine And.intro ?_ ?_ | refine ifB_intro ?_ ?_ | refine xA (by omega) ?_ | ((refine xB ?_); intro kw hk1 hk2) | refine xC (by omega) ?_ | refine xD ?_ | refine xE (by omega) ?_ | refine xF (by omega) ?_ | refine xG ?_ | refine xH ?_ | refine xI (by omega) ?_ | refine xJ (by omega) ?_ | (with_reducible refine stopA ?_) | refine Exists.intro _ (And.intro (by rfl) ?_) | refine GOp.via (by rfl) ?_ | (with_reducible first | refine stopO ?_ | refine stopE ?_ | refine stopD ?_ | refine stopW ?_ | refine stopG ?_ | refine stopC ?_ | refine stopR ?_)))
  (refine GWP'.mk (GWP.loopB [] (fun (j : Nat) => j ≤ 36) (fun (j : Nat) => [(5, uV (rootL p n j)), (6, iV (35 - (j : Int)))]) (fun (j : Nat) => []) 0 (fun (j : Nat) => 36 - j) 0 (Nat.zero_le _) ?_); (conv => whnf); refine And.intro ?_ ?_)
  · focus (refine KeptA.of [] rfl rfl (by repeat' (first | exact trivial | refine And.intro rfl ?_)) rfl ?_ ?_; all_goals (repeat' (first | exact trivial | (refine And.intro ?_ ?_) | (refine Exists.intro _ (And.intro rfl ?_)) | (refine RenO.opt ?_) | (refine RenO.toOpt ?_) | (refine RenO.cells ?_) | exact RenO.defs | exact RenL.nil | (refine RenL.cons ?_ ?_) | (first | fail | (with_reducible exact RenV.sc) | exact RenV.gsN | exact RenV.gsZ | exact RenV.gsL (by decide) | exact RenV.slL (by decide) | ((first | refine RenV.gsE (by (first | exact List.Mem.head _ | exact List.Mem.tail _ (List.Mem.head _) | exact List.Mem.tail _ (List.Mem.tail _ (List.Mem.head _)) | (simp; done))) ?_ | refine RenV.eq (scI_eq ?_) (nameless_sc _)); (first | rfl | omega | (simp only [List.length_append, List.length_cons, List.length_nil, List.length_map, List.length_take, List.length_drop] <;> omega) | (simp only <;> omega) | (simp <;> omega))) | exact RenV.undef) | (with_unfolding_all exact (rfl : (_ : VObj) = _)))))
  rintro j hj
  have hx := rootL_lt p n j
  by_cases hj36 : j < 36
  · have hr : rootL p n (j + 1) = if belD (rootL p n j ||| 2 ^ (35 - j)) p n then rootL p n j ||| 2 ^ (35 - j) else rootL p n j := rfl
    have h2p : 2 ^ (35 - j) < 2 ^ 36 := Nat.pow_lt_pow_right (by omega) (by omega)
    have hy : rootL p n j ||| 2 ^ (35 - j) < 2 ^ 36 := Nat.or_lt_two_pow hx h2p
    have hsh := shl_u64 (a := 1) (k := 35 - j) (by omega) (by omega)
    rw [show ((35 - j : Nat) : Int) = 35 - (j : Int) by omega, Nat.one_mul] at hsh
    have hor : bitZ .or .u64 ((rootL p n j : Nat) : Int) (shlZ .u64 1 (35 - (j : Int))) = ((rootL p n j ||| 2 ^ (35 - j) : Nat) : Int) := by
      have e1 : ((1 : Nat) : Int) = 1 := rfl
      rw [e1] at hsh
      rw [hsh]
      exact or_u64 (by omega) (by omega)
    have hbc := below_call (rootL p n j ||| 2 ^ (35 - j)) p n hy hp hn _ hor
    generalize belD (rootL p n j ||| 2 ^ (35 - j)) p n = b at *
    generalize rootL p n j ||| 2 ^ (35 - j) = y at *
    have hv1 : b = true → bitZ .or .u64 ((rootL p n j : Nat) : Int) (shlZ .u64 1 (35 - (j : Int))) = ((rootL p n (j + 1) : Nat) : Int) := fun h => by rw [hor, hr, h]; rfl
    have hv2 : b = false → ((rootL p n j : Nat) : Int) = ((rootL p n (j + 1) : Nat) : Int) := fun h => by rw [hr, h]; rfl
    clear hr hor
    generalize hx0 : rootL p n j = x at *
    repeat' (first | with_reducible refine And.intro ?_ ?_ | ((with_reducible intro hc); (try simp only [zA, zB, zC, zD, zE, zF, zG, zH, zI, zJ, zK, zL, zM, zN, zO, zP, zQ, zR, zS, zT, zU, zV, zW] at hc); (first | (exact absurd rfl hc) | (exact absurd trivial hc) | (exfalso; omega) | skip)) | exact Is.mk rfl rfl | ((conv => whnf); first | with_reducible refine And.intro ?_ ?_ | with_reducible intro hx | exact Is.mk rfl rfl | (with_reducible first | apply Val.via | apply ValH.via) | refine ifB_intro ?_ ?_ | refine xA (by omega) ?_ | ((refine xB ?_); intro kw hk1 hk2) | refine xC (by omega) ?_ | refine xD ?_ | refine xE (by omega) ?_ | refine xF (by omega) ?_ | refine xG ?_ | refine xH ?_ | refine xI (by omega) ?_ | refine xJ (by omega) ?_ | (with_reducible refine stopA ?_) | refine Exists.intro _ (And.intro (by rfl) ?_) | refine GOp.drawn (by rfl) (by rfl) (Nat.le_of_ble_eq_true (by rfl)) (by rfl) | refine GOp.via (by rfl) ?_ | refine GWP.drawY mixed _ (by kernel_rfl) (by rfl) ?_ | (refine GCall.mk ((hbc _).mono ?_); rintro _ _ ⟨rfl, rfl⟩) | (with_reducible first | refine stopO ?_ | refine stopE ?_ | refine stopD ?_ | refine stopW ?_ | refine stopG ?_ | refine stopC ?_ | refine stopR ?_)))
    all_goals (first | omega | skip)
    · focus (refine Done'.mk ⟨(j + 1), (by omega), ?_, KeptA.of [] rfl rfl (by repeat' (first | exact trivial | refine And.intro rfl ?_)) rfl ?_ ?_⟩; (first | omega | (simp only; omega)); all_goals (repeat' (first | exact trivial | (refine And.intro ?_ ?_) | (refine Exists.intro _ (And.intro rfl ?_)) | (refine RenO.opt ?_) | (refine RenO.toOpt ?_) | (refine RenO.cells ?_) | exact RenO.defs | exact RenL.nil | (refine RenL.cons ?_ ?_) | (first | (first | exact RenV.eq (scI_eq (hv1 hc)) (nameless_sc _) | exact RenV.eq (scI_eq (by omega)) (nameless_sc _)) | (with_reducible exact RenV.sc) | exact RenV.gsN | exact RenV.gsZ | exact RenV.gsL (by decide) | exact RenV.slL (by decide) | ((first | refine RenV.gsE (by (first | exact List.Mem.head _ | exact List.Mem.tail _ (List.Mem.head _) | exact List.Mem.tail _ (List.Mem.tail _ (List.Mem.head _)) | (simp; done))) ?_ | refine RenV.eq (scI_eq ?_) (nameless_sc _)); (first | rfl | omega | (simp only [List.length_append, List.length_cons, List.length_nil, List.length_map, List.length_take, List.length_drop] <;> omega) | (simp only <;> omega) | (simp <;> omega))) | exact RenV.undef) | (with_unfolding_all exact (rfl : (_ : VObj) = _)))))
    · focus (refine Done'.mk ⟨(j + 1), (by omega), ?_, KeptA.of [] rfl rfl (by repeat' (first | exact trivial | refine And.intro rfl ?_)) rfl ?_ ?_⟩; (first | omega | (simp only; omega)); all_goals (repeat' (first | exact trivial | (refine And.intro ?_ ?_) | (refine Exists.intro _ (And.intro rfl ?_)) | (refine RenO.opt ?_) | (refine RenO.toOpt ?_) | (refine RenO.cells ?_) | exact RenO.defs | exact RenL.nil | (refine RenL.cons ?_ ?_) | (first | (first | exact RenV.eq (scI_eq (hv2 hc)) (nameless_sc _) | exact RenV.eq (scI_eq (by omega)) (nameless_sc _)) | (with_reducible exact RenV.sc) | exact RenV.gsN | exact RenV.gsZ | exact RenV.gsL (by decide) | exact RenV.slL (by decide) | ((first | refine RenV.gsE (by (first | exact List.Mem.head _ | exact List.Mem.tail _ (List.Mem.head _) | exact List.Mem.tail _ (List.Mem.tail _ (List.Mem.head _)) | (simp; done))) ?_ | refine RenV.eq (scI_eq ?_) (nameless_sc _)); (first | rfl | omega | (simp only [List.length_append, List.length_cons, List.length_nil, List.length_map, List.length_take, List.length_drop] <;> omega) | (simp only <;> omega) | (simp <;> omega))) | exact RenV.undef) | (with_unfolding_all exact (rfl : (_ : VObj) = _)))))
  · obtain rfl : j = 36 := by omega
    repeat' (first | with_reducible refine And.intro ?_ ?_ | ((with_reducible intro hc); (try simp only [zA, zB, zC, zD, zE, zF, zG, zH, zI, zJ, zK, zL, zM, zN, zO, zP, zQ, zR, zS, zT, zU, zV, zW] at hc); (first | (exact absurd rfl hc) | (exact absurd trivial hc) | (exfalso; omega) | skip)) | exact Is.mk rfl rfl | ((conv => whnf); first | with_reducible refine And.intro ?_ ?_ | with_reducible intro hx | exact Is.mk rfl rfl | (with_reducible first | apply Val.via | apply ValH.via) | refine ifB_intro ?_ ?_ | refine xA (by omega) ?_ | ((refine xB ?_); intro kw hk1 hk2) | refine xC (by omega) ?_ | refine xD ?_ | refine xE (by omega) ?_ | refine xF (by omega) ?_ | refine xG ?_ | refine xH ?_ | refine xI (by omega) ?_ | refine xJ (by omega) ?_ | (with_reducible refine stopA ?_) | refine Exists.intro _ (And.intro (by rfl) ?_) | refine GOp.drawn (by rfl) (by rfl) (Nat.le_of_ble_eq_true (by rfl)) (by rfl) | refine GOp.via (by rfl) ?_ | refine GWP.drawY mixed _ (by kernel_rfl) (by rfl) ?_ | fail | (with_reducible first | refine stopO ?_ | refine stopE ?_ | refine stopD ?_ | refine stopW ?_ | refine stopG ?_ | refine stopC ?_ | refine stopR ?_)))
    all_goals (first | omega | skip)
    exact Done'.mk rfl
theorem prD_pos : ∀ k, ∀ q ∈ prD k, 2 ≤ q ∧ q < k + 2
  | 0, q, h => by simp [prD] at h
  | k + 1, q, h => by
    unfold prD at h
    split at h
    · rcases List.mem_append.1 h with h | h
      · have := prD_pos k q h; omega
      · simp at h; omega
    · have := prD_pos k q h; omega
theorem primes_call (H : Heap) : VCall Tryd.prog 65 [iV 64] H (fun v K => v = roU prT ∧ K = H) := by
  refine VCall.frozen (Q := fun v K => Frz K v (roU prT)) (by intro v hv; simp at hv; rw [hv]; exact nameless_sc _) ?_ (fun v K h => h)
  refine VCall.go Tryd.func65 rfl ?_
  repeat' (first | with_reducible refine And.intro ?_ ?_ | ((with_reducible intro hc); (try simp only [zA, zB, zC, zD, zE, zF, zG, zH, zI, zJ, zK, zL, zM, zN, zO, zP, zQ, zR, zS, zT, zU, zV, zW] at hc); (first | (exact absurd rfl hc) | (exact absurd trivial hc) | (exfalso; omega) | skip)) | ((conv => whnf); first | with_reducible refine And.intro ?_ ?_ | refine ifB_intro ?_ ?_ | refine xA (by omega) ?_ | ((refine xB ?_); intro kw hk1 hk2) | refine xC (by omega) ?_ | refine xD ?_ | refine xE (by omega) ?_ | refine xF (by omega) ?_ | refine xG ?_ | refine xH ?_ | refine xI (by omega) ?_ | refine xJ (by omega) ?_ | (with_reducible refine stopA ?_) | refine Exists.intro _ (And.intro (by rfl) ?_) | refine GOp.via (by rfl) ?_ | (with_reducible first | refine stopO ?_ | refine stopE ?_ | refine stopD ?_ | refine stopW ?_ | refine stopG ?_ | refine stopC ?_ | refine stopR ?_)))
  (refine GWP'.mk (GWP.loopB [0] (fun (k : Nat) => k ≤ 310) (fun (k : Nat) => [(3, .gs 1 (prD k).length 1), (4, uV (k + 2))]) (fun (k : Nat) => [(1, .opt ((prD k).map uV))]) 2 (fun (k : Nat) => 310 - k) 0 (Nat.zero_le _) ?_); (conv => whnf); refine And.intro ?_ ?_)
  · focus (refine KeptA.of [] rfl rfl (by repeat' (first | exact trivial | refine And.intro rfl ?_)) rfl ?_ ?_; all_goals (repeat' (first | exact trivial | (refine And.intro ?_ ?_) | (refine Exists.intro _ (And.intro rfl ?_)) | (refine RenO.opt ?_) | (refine RenO.toOpt ?_) | (refine RenO.cells ?_) | exact RenO.defs | exact RenL.nil | (refine RenL.cons ?_ ?_) | (first | fail | (with_reducible exact RenV.sc) | exact RenV.gsN | exact RenV.gsZ | exact RenV.gsL (by decide) | exact RenV.slL (by decide) | ((first | refine RenV.gsE (by (first | exact List.Mem.head _ | exact List.Mem.tail _ (List.Mem.head _) | exact List.Mem.tail _ (List.Mem.tail _ (List.Mem.head _)) | (simp; done))) ?_ | refine RenV.eq (scI_eq ?_) (nameless_sc _)); (first | rfl | omega | (simp only [List.length_append, List.length_cons, List.length_nil, List.length_map, List.length_take, List.length_drop] <;> omega) | (simp only <;> omega) | (simp <;> omega))) | exact RenV.undef) | (with_unfolding_all exact (rfl : (_ : VObj) = _)))))
  rintro k hk
  have hpos := prD_pos k
  have hless := prD_less (k := k)
  have hdone := fun h => prD_done (k := k) h hk
  have hnx : prD (k + 1) = if (prD k).all (fun q => (k + 2) % q != 0) then prD k ++ [k + 2] else prD k := rfl
  generalize hout : prD k = out at *
  by_cases h64 : out.length < 64
  · have hk' := hless h64
    clear hless hdone
    repeat' (first | with_reducible refine And.intro ?_ ?_ | ((with_reducible intro hc); (try simp only [zA, zB, zC, zD, zE, zF, zG, zH, zI, zJ, zK, zL, zM, zN, zO, zP, zQ, zR, zS, zT, zU, zV, zW] at hc); (first | (exact absurd rfl hc) | (exact absurd trivial hc) | (exfalso; omega) | skip)) | ((conv => whnf); first | with_reducible refine And.intro ?_ ?_ | refine ifB_intro ?_ ?_ | refine xA (by omega) ?_ | ((refine xB ?_); intro kw hk1 hk2) | refine xC (by omega) ?_ | refine xD ?_ | refine xE (by omega) ?_ | refine xF (by omega) ?_ | refine xG ?_ | refine xH ?_ | refine xI (by omega) ?_ | refine xJ (by omega) ?_ | (with_reducible refine stopA ?_) | refine Exists.intro _ (And.intro (by rfl) ?_) | refine GOp.via (by rfl) ?_ | (with_reducible first | refine stopO ?_ | refine stopE ?_ | refine stopD ?_ | refine stopW ?_ | refine stopG ?_ | refine stopC ?_ | refine stopR ?_)))
    all_goals (first | omega | skip)
    (refine GWP'.mk (GWP.loopB [] (fun (i : Nat) => i ≤ out.length) (fun (i : Nat) => [(5, booV ((out.take i).all (fun q => (k + 2) % q != 0))), (17, iV i)]) (fun (i : Nat) => []) 2 (fun (i : Nat) => out.length - i) 0 (Nat.zero_le _) ?_); (conv => whnf); refine And.intro ?_ ?_)
    · focus (refine KeptA.of [] rfl rfl (by repeat' (first | exact trivial | refine And.intro rfl ?_)) rfl ?_ ?_; all_goals (repeat' (first | exact trivial | (refine And.intro ?_ ?_) | (refine Exists.intro _ (And.intro rfl ?_)) | (refine RenO.opt ?_) | (refine RenO.toOpt ?_) | (refine RenO.cells ?_) | exact RenO.defs | exact RenL.nil | (refine RenL.cons ?_ ?_) | (first | exact (RenV.sc : RenV [] 2 (booV true) (booV true)) | (with_reducible exact RenV.sc) | exact RenV.gsN | exact RenV.gsZ | exact RenV.gsL (by decide) | exact RenV.slL (by decide) | ((first | refine RenV.gsE (by (first | exact List.Mem.head _ | exact List.Mem.tail _ (List.Mem.head _) | exact List.Mem.tail _ (List.Mem.tail _ (List.Mem.head _)) | (simp; done))) ?_ | refine RenV.eq (scI_eq ?_) (nameless_sc _)); (first | rfl | omega | (simp only [List.length_append, List.length_cons, List.length_nil, List.length_map, List.length_take, List.length_drop] <;> omega) | (simp only <;> omega) | (simp <;> omega))) | exact RenV.undef) | (with_unfolding_all exact (rfl : (_ : VObj) = _)))))
    rintro i hi
    by_cases hil : i < out.length
    · have hg : out[i]? = some out[i] := List.getElem?_eq_getElem hil
      have hq := hpos out[i] (List.getElem_mem _)
      have hal : (out.take (i + 1)).all (fun q => (k + 2) % q != 0) = ((out.take i).all (fun q => (k + 2) % q != 0) && ((k + 2) % out[i] != 0)) := by
        have : out.take (i + 1) = out.take i ++ [out[i]] := by rw [List.take_add_one, hg]; rfl
        rw [this, List.all_append]
        simp
      generalize out[i] = q at *
      generalize (out.take i).all (fun q => (k + 2) % q != 0) = b at *
      have hb1 : (k + 2) % q = 0 → booV false = booV ((out.take (i + 1)).all (fun q => (k + 2) % q != 0)) := fun h => by rw [hal, h]; simp
      have hb2 : ¬ (k + 2) % q = 0 → booV b = booV ((out.take (i + 1)).all (fun q => (k + 2) % q != 0)) := fun h => by
        have h2 : ((k + 2) % q != 0) = true := by simpa using h
        rw [hal, h2, Bool.and_true]
      repeat' (first | with_reducible refine And.intro ?_ ?_ | ((with_reducible intro hc); (try simp only [zA, zB, zC, zD, zE, zF, zG, zH, zI, zJ, zK, zL, zM, zN, zO, zP, zQ, zR, zS, zT, zU, zV, zW] at hc); (first | (exact absurd rfl hc) | (exact absurd trivial hc) | (exfalso; omega) | skip)) | exact Is.mk rfl rfl | ((conv => whnf); first | with_reducible refine And.intro ?_ ?_ | with_reducible intro hx | exact Is.mk rfl rfl | (with_reducible first | apply Val.via | apply ValH.via) | refine ifB_intro ?_ ?_ | refine xA (by omega) ?_ | ((refine xB ?_); intro kw hk1 hk2) | refine xC (by omega) ?_ | refine xD ?_ | refine xE (by omega) ?_ | refine xF (by omega) ?_ | refine xG ?_ | refine xH ?_ | refine xI (by omega) ?_ | refine xJ (by omega) ?_ | (with_reducible refine stopA ?_) | refine Exists.intro _ (And.intro (by (first | exact vat_of vagg_u (mapu_at hg) (mul1 rfl (by omega)) | rfl)) ?_) | refine GOp.drawn (by rfl) (by rfl) (Nat.le_of_ble_eq_true (by rfl)) (by rfl) | refine GOp.via (by rfl) ?_ | refine GWP.drawY mixed _ (by kernel_rfl) (by rfl) ?_ | fail | (with_reducible first | refine stopO ?_ | refine stopE ?_ | refine stopD ?_ | refine stopW ?_ | refine stopG ?_ | refine stopC ?_ | refine stopR ?_)))
      all_goals (first | omega | skip)
      · focus (refine Done'.mk ⟨(i + 1), (by omega), ?_, KeptA.of [] rfl rfl (by repeat' (first | exact trivial | refine And.intro rfl ?_)) rfl ?_ ?_⟩; (first | omega | (simp only; omega)); all_goals (repeat' (first | exact trivial | (refine And.intro ?_ ?_) | (refine Exists.intro _ (And.intro rfl ?_)) | (refine RenO.opt ?_) | (refine RenO.toOpt ?_) | (refine RenO.cells ?_) | exact RenO.defs | exact RenL.nil | (refine RenL.cons ?_ ?_) | (first | (first | exact RenV.eq (hb1 (by omega)) (nameless_sc _) | exact RenV.eq (scI_eq (by omega)) (nameless_sc _)) | (with_reducible exact RenV.sc) | exact RenV.gsN | exact RenV.gsZ | exact RenV.gsL (by decide) | exact RenV.slL (by decide) | ((first | refine RenV.gsE (by (first | exact List.Mem.head _ | exact List.Mem.tail _ (List.Mem.head _) | exact List.Mem.tail _ (List.Mem.tail _ (List.Mem.head _)) | (simp; done))) ?_ | refine RenV.eq (scI_eq ?_) (nameless_sc _)); (first | rfl | omega | (simp only [List.length_append, List.length_cons, List.length_nil, List.length_map, List.length_take, List.length_drop] <;> omega) | (simp only <;> omega) | (simp <;> omega))) | exact RenV.undef) | (with_unfolding_all exact (rfl : (_ : VObj) = _)))))
      · focus (refine Done'.mk ⟨(i + 1), (by omega), ?_, KeptA.of [] rfl rfl (by repeat' (first | exact trivial | refine And.intro rfl ?_)) rfl ?_ ?_⟩; (first | omega | (simp only; omega)); all_goals (repeat' (first | exact trivial | (refine And.intro ?_ ?_) | (refine Exists.intro _ (And.intro rfl ?_)) | (refine RenO.opt ?_) | (refine RenO.toOpt ?_) | (refine RenO.cells ?_) | exact RenO.defs | exact RenL.nil | (refine RenL.cons ?_ ?_) | (first | (first | exact RenV.eq (hb2 (by omega)) (nameless_sc _) | exact RenV.eq (scI_eq (by omega)) (nameless_sc _)) | (with_reducible exact RenV.sc) | exact RenV.gsN | exact RenV.gsZ | exact RenV.gsL (by decide) | exact RenV.slL (by decide) | ((first | refine RenV.gsE (by (first | exact List.Mem.head _ | exact List.Mem.tail _ (List.Mem.head _) | exact List.Mem.tail _ (List.Mem.tail _ (List.Mem.head _)) | (simp; done))) ?_ | refine RenV.eq (scI_eq ?_) (nameless_sc _)); (first | rfl | omega | (simp only [List.length_append, List.length_cons, List.length_nil, List.length_map, List.length_take, List.length_drop] <;> omega) | (simp only <;> omega) | (simp <;> omega))) | exact RenV.undef) | (with_unfolding_all exact (rfl : (_ : VObj) = _)))))
    · obtain rfl : i = out.length := by omega
      rw [List.take_length]
      have hlo : (out.map uV).length = out.length * 1 := by simp
      generalize out.all (fun q => (k + 2) % q != 0) = b at *
      have h1 : b = true → prD (k + 1) = out ++ [k + 2] := fun h => by rw [hnx, h]; rfl
      have h2 : b = false → prD (k + 1) = out := fun h => by rw [hnx, h]; rfl
      clear hnx hpos
      repeat' (first | with_reducible refine And.intro ?_ ?_ | ((with_reducible intro hc); (try simp only [zA, zB, zC, zD, zE, zF, zG, zH, zI, zJ, zK, zL, zM, zN, zO, zP, zQ, zR, zS, zT, zU, zV, zW] at hc); (first | (exact absurd rfl hc) | (exact absurd trivial hc) | (exfalso; omega) | skip)) | exact Is.mk rfl rfl | ((conv => whnf); first | with_reducible refine And.intro ?_ ?_ | with_reducible intro hx | exact Is.mk rfl rfl | (with_reducible first | apply Val.via | apply ValH.via) | refine ifB_intro ?_ ?_ | refine xA (by omega) ?_ | ((refine xB ?_); intro kw hk1 hk2) | refine xC (by omega) ?_ | refine xD ?_ | refine xE (by omega) ?_ | refine xF (by omega) ?_ | refine xG ?_ | refine xH ?_ | refine xI (by omega) ?_ | refine xJ (by omega) ?_ | (with_reducible refine stopA ?_) | refine Exists.intro _ (And.intro (by rfl) ?_) | refine GOp.drawn (by rfl) (by rfl) (Nat.le_of_ble_eq_true (by rfl)) (by rfl) | refine GOp.via (by rfl) ?_ | refine GWP.drawY mixed _ (by kernel_rfl) (by rfl) ?_ | (refine stopO (GOp'.grow rfl sty_u (d := .slice 114) Tryd.underlying112 (by intro k h; cases h) rfl (m := 1) (l := [uV (k + 2)]) (by rfl) (by rfl) rfl (by simp) (by omega) (by omega) ?_)) | (with_reducible first | refine stopO ?_ | refine stopE ?_ | refine stopD ?_ | refine stopW ?_ | refine stopG ?_ | refine stopC ?_ | refine stopR ?_)))
      all_goals (first | omega | skip)
      · have h1 := h1 hc
        have h3 : (prD (k + 1)).length = out.length + 1 := by rw [h1]; simp
        focus (refine Done'.mk ⟨(k + 1), (by omega), ?_, KeptA.of [(3, 1)] rfl rfl (by repeat' (first | exact trivial | refine And.intro rfl ?_)) rfl ?_ ?_⟩; (first | omega | (simp only; omega)); all_goals (repeat' (first | exact trivial | (refine And.intro ?_ ?_) | (refine Exists.intro _ (And.intro rfl ?_)) | (refine RenO.opt ?_) | (refine RenO.toOpt ?_) | (refine RenO.cells ?_) | exact RenO.defs | exact RenL.nil | (refine RenL.cons ?_ ?_) | (first | (first | exact RenL.eq (by rw [h1]; simp) (nameless_map nameless_uV _) | exact RenV.gsE (List.Mem.head _) h3.symm | exact RenV.eq (scI_eq (by omega)) (nameless_sc _)) | (with_reducible exact RenV.sc) | exact RenV.gsN | exact RenV.gsZ | exact RenV.gsL (by decide) | exact RenV.slL (by decide) | ((first | refine RenV.gsE (by (first | exact List.Mem.head _ | exact List.Mem.tail _ (List.Mem.head _) | exact List.Mem.tail _ (List.Mem.tail _ (List.Mem.head _)) | (simp; done))) ?_ | refine RenV.eq (scI_eq ?_) (nameless_sc _)); (first | rfl | omega | (simp only [List.length_append, List.length_cons, List.length_nil, List.length_map, List.length_take, List.length_drop] <;> omega) | (simp only <;> omega) | (simp <;> omega))) | exact RenV.undef) | (with_unfolding_all exact (rfl : (_ : VObj) = _)))))
      · have h2 := h2 hc
        focus (refine Done'.mk ⟨(k + 1), (by omega), ?_, KeptA.of [(1, 1)] rfl rfl (by repeat' (first | exact trivial | refine And.intro rfl ?_)) rfl ?_ ?_⟩; (first | omega | (simp only; omega)); all_goals (repeat' (first | exact trivial | (refine And.intro ?_ ?_) | (refine Exists.intro _ (And.intro rfl ?_)) | (refine RenO.opt ?_) | (refine RenO.toOpt ?_) | (refine RenO.cells ?_) | exact RenO.defs | exact RenL.nil | (refine RenL.cons ?_ ?_) | (first | (first | exact RenL.eq (by rw [h2]) (nameless_map nameless_uV _) | exact RenV.gsE (List.Mem.head _) (by rw [h2]) | exact RenV.eq (scI_eq (by omega)) (nameless_sc _)) | (with_reducible exact RenV.sc) | exact RenV.gsN | exact RenV.gsZ | exact RenV.gsL (by decide) | exact RenV.slL (by decide) | ((first | refine RenV.gsE (by (first | exact List.Mem.head _ | exact List.Mem.tail _ (List.Mem.head _) | exact List.Mem.tail _ (List.Mem.tail _ (List.Mem.head _)) | (simp; done))) ?_ | refine RenV.eq (scI_eq ?_) (nameless_sc _)); (first | rfl | omega | (simp only [List.length_append, List.length_cons, List.length_nil, List.length_map, List.length_take, List.length_drop] <;> omega) | (simp only <;> omega) | (simp <;> omega))) | exact RenV.undef) | (with_unfolding_all exact (rfl : (_ : VObj) = _)))))
  · have hd := hdone h64
    repeat' (first | with_reducible refine And.intro ?_ ?_ | ((with_reducible intro hc); (try simp only [zA, zB, zC, zD, zE, zF, zG, zH, zI, zJ, zK, zL, zM, zN, zO, zP, zQ, zR, zS, zT, zU, zV, zW] at hc); (first | (exact absurd rfl hc) | (exact absurd trivial hc) | (exfalso; omega) | skip)) | exact Is.mk rfl rfl | ((conv => whnf); first | with_reducible refine And.intro ?_ ?_ | with_reducible intro hx | exact Is.mk rfl rfl | (with_reducible first | apply Val.via | apply ValH.via) | refine ifB_intro ?_ ?_ | refine xA (by omega) ?_ | ((refine xB ?_); intro kw hk1 hk2) | refine xC (by omega) ?_ | refine xD ?_ | refine xE (by omega) ?_ | refine xF (by omega) ?_ | refine xG ?_ | refine xH ?_ | refine xI (by omega) ?_ | refine xJ (by omega) ?_ | (with_reducible refine stopA ?_) | refine Exists.intro _ (And.intro (by rfl) ?_) | refine GOp.drawn (by rfl) (by rfl) (Nat.le_of_ble_eq_true (by rfl)) (by rfl) | refine GOp.via (by rfl) ?_ | refine GWP.drawY mixed _ (by kernel_rfl) (by rfl) ?_ | fail | (with_reducible first | refine stopO ?_ | refine stopE ?_ | refine stopD ?_ | refine stopW ?_ | refine stopG ?_ | refine stopC ?_ | refine stopR ?_)))
    all_goals (first | omega | skip)
    refine Done'.mk ?_
    rw [← hd]
    exact Frz.gs rfl (by simp) (nameless_map nameless_uV _)
end Go.Proofs.YtmmjgbdihgdekaaDoor

/- The document's constants of the sum, walked. -/
namespace Go.Proofs.YtmmjgbdihgdekaaDoor
open Go Go.RowKit
set_option linter.unusedSimpArgs false
set_option linter.unusedVariables false
set_option maxRecDepth 100000
set_option maxHeartbeats 1000000
theorem GOp.stN {o : Oper} {ts : List VV} {H : Heap} {K : VV → Heap → Prop} {b : Nat} {us vs : List VV} {a x : Operand} {t : TypeId} {n : Nat} (hz : vsize Tryd.prog t = some n) (ho : o.op = .store t a x) (ha : veval ts a = .ptr b 0) (hx : veval ts x = .ag vs) (hg : H.get b = some (.cells true us)) (hu : us.length = n) (hv : vs.length = n) (h1 : vs.all VV.one = true) (k : K (.tp []) (H.set b (.cells true vs))) : GOp Tryd.prog o ts H K := by
  refine .via (vop_store ho (H' := H.set b (.cells true vs)) ?_) k
  have h2 : Nat.ble (0 + vs.length) us.length = true := Nat.ble_eq_true_of_le (by omega)
  have h3 : Nat.beq vs.length n = true := by rw [hv]; exact Nat.beq_refl _
  rw [ha, hx]
  simp only [vstore, hg, cellsOf, h1, hz, h3, h2, Bool.and_self, setRun_full (hu.trans hv.symm)]
theorem rturn_call (x : Nat) (hx : x < 4294967296) (a : Nat) (h1 : 1 ≤ a) (h2 : a ≤ 31) (H : Heap) : VCall Tryd.prog 67 [wV x, iV a] H (fun v K => v = wV (rl x (32 - a)) ∧ K = H) := by
  refine VCall.pure (by intro v hv; simp at hv; rcases hv with rfl | rfl <;> exact nameless_sc _) (nameless_sc _) ?_
  refine VCall.go Tryd.func67 rfl ?_
  repeat' (first | with_reducible refine And.intro ?_ ?_ | ((with_reducible intro hc); (try simp only [zA, zB, zC, zD, zE, zF, zG, zH, zI, zJ, zK, zL, zM, zN, zO, zP, zQ, zR, zS, zT, zU, zV, zW] at hc); (first | (exact absurd rfl hc) | (exact absurd trivial hc) | (exfalso; omega) | skip)) | exact Is.mk rfl rfl | ((conv => whnf); first | with_reducible refine And.intro ?_ ?_ | with_reducible intro hx | exact Is.mk rfl rfl | (with_reducible first | apply Val.via | apply ValH.via) | refine ifB_intro ?_ ?_ | refine xA (by omega) ?_ | ((refine xB ?_); intro kw hk1 hk2) | refine xC (by omega) ?_ | refine xD ?_ | refine xE (by omega) ?_ | refine xF (by omega) ?_ | refine xG ?_ | refine xH ?_ | refine xI (by omega) ?_ | refine xJ (by omega) ?_ | (with_reducible refine stopA ?_) | refine Exists.intro _ (And.intro (by rfl) ?_) | refine GOp.drawn (by rfl) (by rfl) (Nat.le_of_ble_eq_true (by rfl)) (by rfl) | refine GOp.via (by rfl) ?_ | refine GWP.drawY mixed _ (by kernel_rfl) (by rfl) ?_ | fail | (with_reducible first | refine stopO ?_ | refine stopE ?_ | refine stopD ?_ | refine stopW ?_ | refine stopG ?_ | refine stopC ?_ | refine stopR ?_)))
  all_goals (first | omega | skip)
  refine Done'.mk ?_
  refine scI_eq (x := bitZ .or .u32 (shrZ .u32 (x : Int) (a : Int)) (shlZ .u32 (x : Int) (32 - (a : Int)))) ?_
  rw [show (32 : Int) - (a : Int) = ((32 - a : Nat) : Int) by omega, shl_u32 (by omega), shr_u32 (by omega), or_u32 (div_lt32 hx _) (Nat.mod_lt _ (by omega)), Nat.or_comm]
  unfold rl
  rw [show 32 - (32 - a) = a by omega]
theorem roots3_at' : ∀ i : Fin 64, rootN (prT.getD i.val 0) 3 = kT.getD i.val 0 := by decide +kernel
theorem roots2_at' : ∀ i : Fin 8, rootN (prT.getD i.val 0) 2 = h0T.list.getD i.val 0 := by decide +kernel
theorem prT_at' : ∀ i : Fin 64, prT[i.val]? = some (prT.getD i.val 0) ∧ prT.getD i.val 0 < 65536 := by decide +kernel
theorem kT_next' : ∀ i : Fin 64, kT.take (i.val + 1) = kT.take i.val ++ [kT.getD i.val 0] := by decide +kernel
theorem hT_next' : ∀ i : Fin 8, h0T.list.take (i.val + 1) = h0T.list.take i.val ++ [h0T.list.getD i.val 0] := by decide +kernel
/-- So many words of a list, and noughts. -/
def wz (l : List Nat) (n i : Nat) : List VV := (l.take i).map wV ++ List.replicate (n - i) (wV 0)
theorem wz_len {l : List Nat} {n i : Nat} (h : i ≤ n) (hl : l.length = n) : (wz l n i).length = n := by simp [wz]; omega
theorem wz_nameless (l : List Nat) (n i : Nat) : ∀ v ∈ wz l n i, Nameless v := fun v hv => by
  rcases List.mem_append.1 hv with hv | hv
  · exact nameless_map nameless_wV _ v hv
  · rw [(List.mem_replicate.1 hv).2]; exact nameless_wV 0
theorem wz_next {l : List Nat} {n i x : Nat} (h : i < n) (hl : l.length = n) (hn : l.take (i + 1) = l.take i ++ [x]) : (wz l n i).set i (wV x) = wz l n (i + 1) := by
  unfold wz
  have h1 : ((l.take i).map wV).length = i := by simp; omega
  rw [List.set_append_right _ _ (by omega), h1, Nat.sub_self, hn]
  obtain ⟨k, hk⟩ : ∃ k, n - i = k + 1 := ⟨n - i - 1, by omega⟩
  rw [hk, List.replicate_succ, List.set_cons_zero, show n - (i + 1) = k by omega]
  simp
theorem wz_end {l : List Nat} {n : Nat} (hl : l.length = n) : wz l n n = l.map wV := by
  unfold wz
  rw [List.take_of_length_le (by omega), Nat.sub_self]
  simp
theorem vstore_wz {H : Heap} {b q i : Nat} {vs : List VV} {z : Int} {x : Nat} (hg : H.get b = some (.cells true vs)) (hi : q = i) (hq : i < vs.length) (hz : z = (x : Int)) : vstore Tryd.prog 109 (.ptr b q) (.sc (.int .u32 z)) H = some (H.set b (.cells true (vs.set i (wV x)))) := by
  subst hi hz
  have hz : vsize Tryd.prog 109 = some 1 := by kernel_rfl
  have h1 : Nat.ble (q + 1) vs.length = true := Nat.ble_eq_true_of_le hq
  simp only [vstore, hg, cellsOf, hz, List.length_singleton, Nat.beq_refl, h1, Bool.and_self, setRun]
  rfl
end Go.Proofs.YtmmjgbdihgdekaaDoor

