import Derived.Test.YtmmjgbdihgdekaaDoorE5
import Derived.Test.YtmmjgbdihgdekaaDoorG1
/- The sum of FIPS 180-4, as plain numbers; bits of words. No program in sight. -/
namespace Go.Proofs.YtmmjgbdihgdekaaDoor
open Go Go.RowKit
set_option linter.unusedSimpArgs false
set_option linter.unusedVariables false
set_option maxRecDepth 100000
theorem or_u32 {a b : Nat} (ha : a < 4294967296) (hb : b < 4294967296) : bitZ .or .u32 (a : Int) (b : Int) = ((a ||| b : Nat) : Int) := by
  have hlt : a ||| b < 2 ^ 32 := Nat.or_lt_two_pow ha hb
  rw [bitZ_def]
  show IntKind.u32.wrap _ = _
  have e : IntKind.u32.bits = 32 := rfl
  rw [e, ofInt_nat, ofInt_nat, BitVec.toNat_or, BitVec.toNat_ofNat, BitVec.toNat_ofNat, Nat.mod_eq_of_lt ha, Nat.mod_eq_of_lt hb, wrap_u32]
  omega
theorem and_u32 {a b : Nat} (ha : a < 4294967296) (hb : b < 4294967296) : bitZ .and .u32 (a : Int) (b : Int) = ((a &&& b : Nat) : Int) := by
  have hlt : a &&& b < 2 ^ 32 := Nat.and_lt_two_pow _ hb
  rw [bitZ_def]
  show IntKind.u32.wrap _ = _
  have e : IntKind.u32.bits = 32 := rfl
  rw [e, ofInt_nat, ofInt_nat, BitVec.toNat_and, BitVec.toNat_ofNat, BitVec.toNat_ofNat, Nat.mod_eq_of_lt ha, Nat.mod_eq_of_lt hb, wrap_u32]
  omega
theorem xor_lt {a b : Nat} (ha : a < 4294967296) (hb : b < 4294967296) : a ^^^ b < 4294967296 := Nat.xor_lt_two_pow (n := 32) ha hb
theorem and_lt {a b : Nat} (hb : b < 4294967296) : a &&& b < 4294967296 := Nat.and_lt_two_pow (n := 32) _ hb
theorem or_lt {a b : Nat} (ha : a < 4294967296) (hb : b < 4294967296) : a ||| b < 4294967296 := Nat.or_lt_two_pow (n := 32) ha hb
theorem xor_u32 {a b : Nat} (ha : a < 4294967296) (hb : b < 4294967296) : bitZ .xor .u32 (a : Int) (b : Int) = ((a ^^^ b : Nat) : Int) := by
  have hlt := xor_lt ha hb
  rw [bitZ_def]
  show IntKind.u32.wrap _ = _
  have e : IntKind.u32.bits = 32 := rfl
  rw [e, ofInt_nat, ofInt_nat, BitVec.toNat_xor, BitVec.toNat_ofNat, BitVec.toNat_ofNat, Nat.mod_eq_of_lt (show a < 2 ^ 32 from ha), Nat.mod_eq_of_lt (show b < 2 ^ 32 from hb), wrap_u32]
  omega
theorem not_u32 {a : Nat} (ha : a < 4294967296) : notZ .u32 (a : Int) = ((4294967295 ^^^ a : Nat) : Int) := xor_u32 (a := 4294967295) (by omega) ha
theorem shl_u32 {a k : Nat} (hk : k ≤ 32) : shlZ .u32 (a : Int) (k : Int) = ((a * 2 ^ k % 4294967296 : Nat) : Int) := by
  rw [shlZ_def]
  unfold shlZ0
  have e : IntKind.u32.bits = 32 := rfl
  rw [e, Int.toNat_natCast, Nat.min_eq_left hk, wrap_u32]
  have h : (a : Int) * 2 ^ k = ((a * 2 ^ k : Nat) : Int) := by push_cast; rfl
  rw [h]
  omega
theorem shr_u32 {a k : Nat} (hk : k ≤ 32) : shrZ .u32 (a : Int) (k : Int) = ((a / 2 ^ k : Nat) : Int) := by
  rw [shrZ_def]
  unfold shrZ0
  have e : IntKind.u32.bits = 32 := rfl
  rw [e, Int.toNat_natCast, Nat.min_eq_left hk, Int.fdiv_eq_ediv_of_nonneg _ (by exact Int.le_of_lt (Int.pow_pos (by omega)))]
  push_cast
  rfl
/-- A word, turned to the left. -/
def rl (x s : Nat) : Nat := (x * 2 ^ s % 4294967296) ||| (x / 2 ^ (32 - s))
theorem div_lt32 {x : Nat} (hx : x < 4294967296) (k : Nat) : x / k < 4294967296 := Nat.lt_of_le_of_lt (Nat.div_le_self _ _) hx
theorem rl_lt {x s : Nat} (hx : x < 4294967296) : rl x s < 4294967296 := or_lt (Nat.mod_lt _ (by omega)) (div_lt32 hx _)
def tn (x a b c : Nat) : Nat := (rl x (32 - a) ^^^ rl x (32 - b)) ^^^ rl x (32 - c)
def s0f (x : Nat) : Nat := (rl x 25 ^^^ rl x 14) ^^^ (x / 8)
def s1f (x : Nat) : Nat := (rl x 15 ^^^ rl x 13) ^^^ (x / 1024)
def chf (e f g : Nat) : Nat := (e &&& f) ^^^ ((4294967295 ^^^ e) &&& g)
def mjf (a b c : Nat) : Nat := ((a &&& b) ^^^ (a &&& c)) ^^^ (b &&& c)
/-- Eight words. -/
structure S8 where
  a : Nat
  b : Nat
  c : Nat
  d : Nat
  e : Nat
  f : Nat
  g : Nat
  h : Nat
def S8.ok (s : S8) : Prop := s.a < 4294967296 ∧ s.b < 4294967296 ∧ s.c < 4294967296 ∧ s.d < 4294967296 ∧ s.e < 4294967296 ∧ s.f < 4294967296 ∧ s.g < 4294967296 ∧ s.h < 4294967296
def S8.list (s : S8) : List Nat := [s.a, s.b, s.c, s.d, s.e, s.f, s.g, s.h]
def S8.add (s t : S8) : S8 := ⟨(s.a + t.a) % 4294967296, (s.b + t.b) % 4294967296, (s.c + t.c) % 4294967296, (s.d + t.d) % 4294967296, (s.e + t.e) % 4294967296, (s.f + t.f) % 4294967296, (s.g + t.g) % 4294967296, (s.h + t.h) % 4294967296⟩
theorem mlt (n : Nat) : n % 4294967296 < 4294967296 := Nat.mod_lt _ (by omega)
theorem S8.add_ok (s t : S8) : (s.add t).ok := ⟨mlt _, mlt _, mlt _, mlt _, mlt _, mlt _, mlt _, mlt _⟩
def t1f (s : S8) (k w : Nat) : Nat := (s.h + tn s.e 6 11 25 + chf s.e s.f s.g + k + w) % 4294967296
def t2f (s : S8) : Nat := (tn s.a 2 13 22 + mjf s.a s.b s.c) % 4294967296
def roundF (s : S8) (k w : Nat) : S8 := ⟨(t1f s k w + t2f s) % 4294967296, s.a, s.b, s.c, (s.d + t1f s k w) % 4294967296, s.e, s.f, s.g⟩
theorem roundF_ok {s : S8} (hs : s.ok) (k w : Nat) : (roundF s k w).ok := ⟨mlt _, hs.1, hs.2.1, hs.2.2.1, mlt _, hs.2.2.2.2.1, hs.2.2.2.2.2.1, hs.2.2.2.2.2.2.1⟩
def wNext (l : List Nat) : Nat := (l.getD (l.length - 16) 0 + l.getD (l.length - 7) 0 + s0f (l.getD (l.length - 15) 0) + s1f (l.getD (l.length - 2) 0)) % 4294967296
def wExt : Nat → List Nat → List Nat
  | 0, l => l
  | n + 1, l => wExt n l ++ [wNext (wExt n l)]
/-- Four bytes as a word. -/
def be4 (l : List UInt8) : Nat := l.foldl (fun n b => n * 256 + b.toNat) 0
def w16 (p : List UInt8) : Nat → List Nat
  | 0 => []
  | n + 1 => w16 p n ++ [be4 ((p.drop (4 * n)).take 4)]
def wAll (p : List UInt8) : List Nat := wExt 48 (w16 p 16)
def kT : List Nat := [1116352408, 1899447441, 3049323471, 3921009573, 961987163, 1508970993, 2453635748, 2870763221, 3624381080, 310598401, 607225278, 1426881987, 1925078388, 2162078206, 2614888103, 3248222580, 3835390401, 4022224774, 264347078, 604807628, 770255983, 1249150122, 1555081692, 1996064986, 2554220882, 2821834349, 2952996808, 3210313671, 3336571891, 3584528711, 113926993, 338241895, 666307205, 773529912, 1294757372, 1396182291, 1695183700, 1986661051, 2177026350, 2456956037, 2730485921, 2820302411, 3259730800, 3345764771, 3516065817, 3600352804, 4094571909, 275423344, 430227734, 506948616, 659060556, 883997877, 958139571, 1322822218, 1537002063, 1747873779, 1955562222, 2024104815, 2227730452, 2361852424, 2428436474, 2756734187, 3204031479, 3329325298]
def rnds (s : S8) (w : List Nat) : Nat → S8
  | 0 => s
  | n + 1 => roundF (rnds s w n) (kT.getD n 0) (w.getD n 0)
theorem rnds_ok {s : S8} (hs : s.ok) (w : List Nat) : ∀ n, (rnds s w n).ok
  | 0 => hs
  | n + 1 => roundF_ok (rnds_ok hs w n) _ _
/-- A block is added. -/
def compr (s : S8) (p : List UInt8) : S8 := s.add (rnds s (wAll p) 64)
/-- Whole blocks are added; what is left. -/
def blks : Nat → S8 → List UInt8 → S8 × List UInt8
  | 0, s, m => (s, m)
  | n + 1, s, m => if 64 ≤ m.length then blks n (compr s (m.take 64)) (m.drop 64) else (s, m)
def h0T : S8 := ⟨1779033703, 3144134277, 1013904242, 2773480762, 1359893119, 2600822924, 528734635, 1541459225⟩
def be8 (n : Nat) : List UInt8 := [UInt8.ofNat (n / 72057594037927936), UInt8.ofNat (n / 281474976710656), UInt8.ofNat (n / 1099511627776), UInt8.ofNat (n / 4294967296), UInt8.ofNat (n / 16777216), UInt8.ofNat (n / 65536), UInt8.ofNat (n / 256), UInt8.ofNat n]
def padT (n : Nat) : List UInt8 := (128 :: List.replicate ((119 - n % 64) % 64) 0) ++ be8 (8 * n)
def w4 (n : Nat) : List UInt8 := [UInt8.ofNat (n / 16777216), UInt8.ofNat (n / 65536), UInt8.ofNat (n / 256), UInt8.ofNat n]
def S8.bytes (s : S8) : List UInt8 := w4 s.a ++ w4 s.b ++ w4 s.c ++ w4 s.d ++ w4 s.e ++ w4 s.f ++ w4 s.g ++ w4 s.h
/-- The sum. -/
def sha (m : List UInt8) : List UInt8 := (blks (m.length + 1) h0T (m ++ padT m.length)).1.bytes
end Go.Proofs.YtmmjgbdihgdekaaDoor

/- Words that are turned, walked. -/
namespace Go.Proofs.YtmmjgbdihgdekaaDoor
open Go Go.RowKit
set_option linter.unusedSimpArgs false
set_option linter.unusedVariables false
set_option maxRecDepth 100000
set_option maxHeartbeats 4000000
def wV (n : Nat) : VV := .sc (.int .u32 (n : Int))
theorem rot_call (x : Nat) (hx : x < 4294967296) (a : Nat) (h1 : 1 ≤ a) (h2 : a ≤ 31) (z : Int) (hz : z = -(a : Int)) (H : Heap) : VCall Tryd.prog 177 [wV x, iV z] H (fun v K => v = wV (rl x (32 - a)) ∧ K = H) := by
  have hb : bitZ .and .u64 (z % 18446744073709551616) 31 = ((32 - a : Nat) : Int) := by
    have e : z % 18446744073709551616 = ((18446744073709551616 - a : Nat) : Int) := by omega
    rw [e]
    have := and_u64 (a := 18446744073709551616 - a) (b := 31) (by omega) (by omega)
    refine Eq.trans this ?_
    rw [show (31 : Nat) = 2 ^ 5 - 1 by rfl, Nat.and_two_pow_sub_one_eq_mod]
    omega
  refine VCall.go Tryd.func177 rfl ?_
  repeat' (first | with_reducible refine And.intro ?_ ?_ | ((with_reducible intro hc); (try simp only [zA, zB, zC, zD, zE, zF, zG, zH, zI, zJ, zK, zL, zM, zN, zO, zP, zQ, zR, zS, zT, zU, zV, zW] at hc); (first | (exact absurd rfl hc) | (exact absurd trivial hc) | (exfalso; omega) | skip)) | ((conv => whnf); first | with_reducible refine And.intro ?_ ?_ | refine ifB_intro ?_ ?_ | refine xA (by omega) ?_ | ((refine xB ?_); intro kw hk1 hk2) | refine xC (by omega) ?_ | refine xD ?_ | refine xE (by omega) ?_ | refine xF (by omega) ?_ | refine xG ?_ | refine xH ?_ | refine xI (by omega) ?_ | refine xJ (by omega) ?_ | (with_reducible refine stopA ?_) | refine Exists.intro _ (And.intro (by rfl) ?_) | refine GOp.via (by rfl) ?_ | (with_reducible first | refine stopO ?_ | refine stopE ?_ | refine stopD ?_ | refine stopW ?_ | refine stopG ?_ | refine stopC ?_ | refine stopR ?_)))
  all_goals (first | omega | skip)
  refine Done'.mk ⟨?_, rfl⟩
  refine scI_eq (x := bitZ .or .u32 (shlZ .u32 (x : Int) (bitZ .and .u64 (z % 18446744073709551616) 31)) (shrZ .u32 (x : Int) (32 - bitZ .and .u64 (z % 18446744073709551616) 31))) ?_
  rw [hb, show (32 : Int) - ((32 - a : Nat) : Int) = ((32 - (32 - a) : Nat) : Int) by omega, shl_u32 (by omega), shr_u32 (by omega), or_u32 (Nat.mod_lt _ (by omega)) (div_lt32 hx _)]
  rfl
theorem turn_call (x : Nat) (hx : x < 4294967296) (a b c : Nat) (h1 : 1 ≤ a ∧ a ≤ 31) (h2 : 1 ≤ b ∧ b ≤ 31) (h3 : 1 ≤ c ∧ c ≤ 31) (H : Heap) : VCall Tryd.prog 179 [wV x, iV a, iV b, iV c] H (fun v K => v = wV (tn x a b c) ∧ K = H) := by
  refine VCall.go Tryd.func179 rfl ?_
  repeat' (first | with_reducible refine And.intro ?_ ?_ | ((with_reducible intro hc); (try simp only [zA, zB, zC, zD, zE, zF, zG, zH, zI, zJ, zK, zL, zM, zN, zO, zP, zQ, zR, zS, zT, zU, zV, zW] at hc); (first | (exact absurd rfl hc) | (exact absurd trivial hc) | (exfalso; omega) | skip)) | ((conv => whnf); first | with_reducible refine And.intro ?_ ?_ | refine ifB_intro ?_ ?_ | refine xA (by omega) ?_ | ((refine xB ?_); intro kw hk1 hk2) | refine xC (by omega) ?_ | refine xD ?_ | refine xE (by omega) ?_ | refine xF (by omega) ?_ | refine xG ?_ | refine xH ?_ | refine xI (by omega) ?_ | refine xJ (by omega) ?_ | (with_reducible refine stopA ?_) | refine Exists.intro _ (And.intro (by rfl) ?_) | refine GOp.via (by rfl) ?_ | (with_reducible first | refine stopO ?_ | refine stopE ?_ | refine stopD ?_ | refine stopW ?_ | refine stopG ?_) | (first | (refine GCall.mk ((rot_call x hx a h1.1 h1.2 (0 - (a : Int)) (by omega) _).mono ?_); rintro _ _ ⟨rfl, rfl⟩) | (refine GCall.mk ((rot_call x hx b h2.1 h2.2 (0 - (b : Int)) (by omega) _).mono ?_); rintro _ _ ⟨rfl, rfl⟩) | (refine GCall.mk ((rot_call x hx c h3.1 h3.2 (0 - (c : Int)) (by omega) _).mono ?_); rintro _ _ ⟨rfl, rfl⟩)) | (with_reducible refine stopC ?_) | (with_reducible refine stopR ?_)))
  all_goals (first | omega | skip)
  refine Done'.mk ⟨?_, rfl⟩
  refine scI_eq (x := bitZ .xor .u32 (bitZ .xor .u32 (rl x (32 - a) : Nat) (rl x (32 - b) : Nat)) (rl x (32 - c) : Nat)) ?_
  rw [xor_u32 (rl_lt hx) (rl_lt hx), xor_u32 (xor_lt (rl_lt hx) (rl_lt hx)) (rl_lt hx)]
  rfl
end Go.Proofs.YtmmjgbdihgdekaaDoor

/- The constants of the sum. -/
namespace Go.Proofs.YtmmjgbdihgdekaaDoor
open Go Go.RowKit
set_option maxRecDepth 100000
set_option maxHeartbeats 8000000
def kI : List Int := [1116352408, 1899447441, 3049323471, 3921009573, 961987163, 1508970993, 2453635748, 2870763221, 3624381080, 310598401, 607225278, 1426881987, 1925078388, 2162078206, 2614888103, 3248222580, 3835390401, 4022224774, 264347078, 604807628, 770255983, 1249150122, 1555081692, 1996064986, 2554220882, 2821834349, 2952996808, 3210313671, 3336571891, 3584528711, 113926993, 338241895, 666307205, 773529912, 1294757372, 1396182291, 1695183700, 1986661051, 2177026350, 2456956037, 2730485921, 2820302411, 3259730800, 3345764771, 3516065817, 3600352804, 4094571909, 275423344, 430227734, 506948616, 659060556, 883997877, 958139571, 1322822218, 1537002063, 1747873779, 1955562222, 2024104815, 2227730452, 2361852424, 2428436474, 2756734187, 3204031479, 3329325298]
def kV : List VV := kI.map fun n => .sc (.int .u32 n)
def agB : Option (VV × Heap) → List VV → Bool
  | some (.ag vs, _), us => vs.length == us.length && (vs.zip us).all fun p => veq p.1 p.2
  | _, _ => false
theorem agB_eq {x : Option (VV × Heap)} {us : List VV} (h : agB x us = true) : ∃ H, x = some (.ag us, H) := by
  unfold agB at h
  split at h
  · rename_i _ vs H
    simp only [Bool.and_eq_true, beq_iff_eq] at h
    obtain ⟨h1, h2⟩ := h
    refine ⟨H, ?_⟩
    have key : ∀ (vs us : List VV), vs.length = us.length → ((vs.zip us).all fun p => veq p.1 p.2) = true → vs = us := by
      intro vs
      induction vs with
      | nil => intro us h _; exact (List.eq_nil_of_length_eq_zero h.symm).symm
      | cons v r ih =>
        intro us h h2
        cases us with
        | nil => simp at h
        | cons u us =>
          simp only [List.zip_cons_cons, List.all_cons, Bool.and_eq_true] at h2
          rw [veq_eq h2.1, ih us (by simpa using h) h2.2]
    rw [key _ _ h1 h2]
  · cases h
theorem consts_run : agB (vcallW Tryd.prog (vcode Tryd.prog 30) 178 [] ⟨[], 0⟩) kV = true := by kernel_rfl
theorem kV_sc : ∀ v ∈ kV, ∃ x, v = .sc x := fun v hv => by
  obtain ⟨n, _, rfl⟩ := List.mem_map.1 hv
  exact ⟨_, rfl⟩
theorem consts_call (H : Heap) : VCall Tryd.prog 178 [] H (fun v K => v = .ag kV ∧ K = H) := by
  obtain ⟨H', h⟩ := agB_eq consts_run
  refine VCall.pure (by simp) (nameless_ag fun v hv => ?_) ((VCall.run mixed 30 h).mono fun v K e => e.1)
  obtain ⟨x, rfl⟩ := kV_sc v hv
  exact nameless_sc x
end Go.Proofs.YtmmjgbdihgdekaaDoor

