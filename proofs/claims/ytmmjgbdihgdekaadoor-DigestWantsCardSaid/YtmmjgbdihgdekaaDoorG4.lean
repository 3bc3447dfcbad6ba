import Derived.Test.YtmmjgbdihgdekaaDoorG2
import Derived.Test.YtmmjgbdihgdekaaDoorG1
import Derived.Test.YtmmjgbdihgdekaaDoorE5
/- Sixty-four signs: reading, the plain law. No program in sight. -/
namespace Go.Proofs.YtmmjgbdihgdekaaDoor
open Go Go.RowKit
set_option linter.unusedSimpArgs false
set_option linter.unusedVariables false
set_option maxRecDepth 100000
theorem atZ_sgn' : ∀ n : Fin 64, atZ (sgn n.val) 64 = (n.val : Int) := by decide +kernel
theorem atZ_sgn {m : Nat} (h : m < 64) : atZ (sgn m) 64 = (m : Int) := atZ_sgn' ⟨m, h⟩
theorem atZ_pad : atZ 61 64 = -1 := by decide +kernel
theorem sgn_pad' : ∀ n : Fin 64, sgn n.val ≠ 61 := by decide +kernel
theorem sgn_pad {m : Nat} (h : m < 64) : sgn m ≠ 61 := sgn_pad' ⟨m, h⟩
theorem sgn_atZ (c : UInt8) : ∀ n, 0 ≤ atZ c n → sgn (atZ c n).toNat = c
  | 0, h => by simp [atZ] at h
  | n + 1, h => by
    rw [atZ_succ] at h ⊢
    by_cases e : sgn n = c
    · rw [if_pos e, Int.toNat_natCast]; exact e
    · rw [if_neg e] at h ⊢; exact sgn_atZ c n h
theorem cbits_sgn {m : Nat} (h : m < 64) : cbits (sgn m) = [UInt8.ofNat (m / 32 % 2), UInt8.ofNat (m / 16 % 2), UInt8.ofNat (m / 8 % 2), UInt8.ofNat (m / 4 % 2), UInt8.ofNat (m / 2 % 2), UInt8.ofNat (m % 2)] := by
  unfold cbits
  rw [atZ_sgn h, if_neg (by omega), Int.toNat_natCast]
theorem cbits_pad : cbits 61 = [] := by unfold cbits; rw [atZ_pad]; rfl
theorem v8_nat {x : UInt8} {a b c d e f g h : Nat} (ha : a < 2) (hb : b < 2) (hc : c < 2) (hd : d < 2) (he : e < 2) (hf : f < 2) (hg : g < 2) (hh : h < 2) (hx : x.toNat = 128 * a + 64 * b + 32 * c + 16 * d + 8 * e + 4 * f + 2 * g + h) :
    v8 [UInt8.ofNat a, UInt8.ofNat b, UInt8.ofNat c, UInt8.ofNat d, UInt8.ofNat e, UInt8.ofNat f, UInt8.ofNat g, UInt8.ofNat h] = x := by
  have step : ∀ (y : UInt8) (n b : Nat), y.toNat = n → n < 128 → b < 2 → (2 * y + UInt8.ofNat b).toNat = 2 * n + b := fun y n b h1 h2 h3 => by
    rw [UInt8.toNat_add, UInt8.toNat_mul, UInt8.toNat_ofNat', h1]
    have : (2 : UInt8).toNat = 2 := rfl
    rw [this]
    omega
  apply UInt8.toNat_inj.1
  have s0 := step 0 0 a rfl (by omega) ha
  have s1 := step _ _ b s0 (by omega) hb
  have s2 := step _ _ c s1 (by omega) hc
  have s3 := step _ _ d s2 (by omega) hd
  have s4 := step _ _ e s3 (by omega) he
  have s5 := step _ _ f s4 (by omega) hf
  have s6 := step _ _ g s5 (by omega) hg
  have s7 := step _ _ h s6 (by omega) hh
  show (2 * _ + UInt8.ofNat h).toNat = _
  rw [hx]
  refine s7.trans ?_
  omega
theorem m2 (n : Nat) : n % 2 < 2 := Nat.mod_lt _ (by omega)
theorem rbits_b64 : ∀ l : List UInt8, bytes8 (rbits (b64 l)) = l
  | a :: b :: c :: r => by
    have ha := a.toNat_lt; have hb := b.toNat_lt; have hc := c.toNat_lt
    have e : b64 (a :: b :: c :: r) = sgn (a.toNat / 4) :: sgn (a.toNat % 4 * 16 + b.toNat / 16) :: sgn (b.toNat % 16 * 4 + c.toNat / 64) :: sgn (c.toNat % 64) :: b64 r := by cases r <;> rfl
    rw [e]
    simp only [rbits]
    rw [cbits_sgn (by omega), cbits_sgn (by omega), cbits_sgn (by omega), cbits_sgn (by omega)]
    have h1 := v8_nat (x := a) (m2 (a.toNat / 4 / 32)) (m2 (a.toNat / 4 / 16)) (m2 (a.toNat / 4 / 8)) (m2 (a.toNat / 4 / 4)) (m2 (a.toNat / 4 / 2)) (m2 (a.toNat / 4)) (m2 ((a.toNat % 4 * 16 + b.toNat / 16) / 32)) (m2 ((a.toNat % 4 * 16 + b.toNat / 16) / 16)) (by omega)
    have h2 := v8_nat (x := b) (m2 ((a.toNat % 4 * 16 + b.toNat / 16) / 8)) (m2 ((a.toNat % 4 * 16 + b.toNat / 16) / 4)) (m2 ((a.toNat % 4 * 16 + b.toNat / 16) / 2)) (m2 (a.toNat % 4 * 16 + b.toNat / 16)) (m2 ((b.toNat % 16 * 4 + c.toNat / 64) / 32)) (m2 ((b.toNat % 16 * 4 + c.toNat / 64) / 16)) (m2 ((b.toNat % 16 * 4 + c.toNat / 64) / 8)) (m2 ((b.toNat % 16 * 4 + c.toNat / 64) / 4)) (by omega)
    have h3 := v8_nat (x := c) (m2 ((b.toNat % 16 * 4 + c.toNat / 64) / 2)) (m2 (b.toNat % 16 * 4 + c.toNat / 64)) (m2 (c.toNat % 64 / 32)) (m2 (c.toNat % 64 / 16)) (m2 (c.toNat % 64 / 8)) (m2 (c.toNat % 64 / 4)) (m2 (c.toNat % 64 / 2)) (m2 (c.toNat % 64)) (by omega)
    have hr := rbits_b64 r
    show v8 _ :: v8 _ :: v8 _ :: bytes8 (rbits (b64 r)) = _
    rw [hr, h1, h2, h3]
  | [a, b] => by
    have ha := a.toNat_lt; have hb := b.toNat_lt
    simp only [b64, rbits]
    rw [cbits_sgn (by omega), cbits_sgn (by omega), cbits_sgn (by omega), cbits_pad]
    have h1 := v8_nat (x := a) (m2 (a.toNat / 4 / 32)) (m2 (a.toNat / 4 / 16)) (m2 (a.toNat / 4 / 8)) (m2 (a.toNat / 4 / 4)) (m2 (a.toNat / 4 / 2)) (m2 (a.toNat / 4)) (m2 ((a.toNat % 4 * 16 + b.toNat / 16) / 32)) (m2 ((a.toNat % 4 * 16 + b.toNat / 16) / 16)) (by omega)
    have h2 := v8_nat (x := b) (m2 ((a.toNat % 4 * 16 + b.toNat / 16) / 8)) (m2 ((a.toNat % 4 * 16 + b.toNat / 16) / 4)) (m2 ((a.toNat % 4 * 16 + b.toNat / 16) / 2)) (m2 (a.toNat % 4 * 16 + b.toNat / 16)) (m2 (b.toNat % 16 * 4 / 32)) (m2 (b.toNat % 16 * 4 / 16)) (m2 (b.toNat % 16 * 4 / 8)) (m2 (b.toNat % 16 * 4 / 4)) (by omega)
    show v8 _ :: v8 _ :: bytes8 [_, _] = _
    rw [h1, h2]
    rfl
  | [a] => by
    have ha := a.toNat_lt
    simp only [b64, rbits]
    rw [cbits_sgn (by omega), cbits_sgn (by omega), cbits_pad]
    have h1 := v8_nat (x := a) (m2 (a.toNat / 4 / 32)) (m2 (a.toNat / 4 / 16)) (m2 (a.toNat / 4 / 8)) (m2 (a.toNat / 4 / 4)) (m2 (a.toNat / 4 / 2)) (m2 (a.toNat / 4)) (m2 (a.toNat % 4 * 16 / 32)) (m2 (a.toNat % 4 * 16 / 16)) (by omega)
    show v8 _ :: bytes8 [_, _, _, _] = _
    rw [h1]
    rfl
  | [] => rfl
theorem r64_b64 (l : List UInt8) : r64 (b64 l) = l := rbits_b64 l
/-- How much is left of the first so many, without the last 61s. -/
def keepN (l : List UInt8) : Nat → Nat
  | 0 => 0
  | n + 1 => if l[n]? = some 61 then keepN l n else n + 1
theorem keepN_le (l : List UInt8) : ∀ n, keepN l n ≤ n
  | 0 => Nat.le_refl _
  | n + 1 => by
    unfold keepN
    have := keepN_le l n
    split <;> omega
def sixN (c : UInt8) : Nat := (atZ c 64).toNat
def qn (p : List UInt8) : Nat := p.foldl (fun n c => n * 64 + sixN c) 0
def qok (h i : Nat) (c : UInt8) : Bool := if i < h then decide (0 ≤ atZ c 64) else c == 61
def qall (h : Nat) (p : List UInt8) : Nat → Bool
  | 0 => true
  | n + 1 => qall h p n && (match p[n]? with
    | some c => qok h n c
    | none => true)
/-- What quad makes of four signs, of which h are left without the last 61s. -/
def quadH (h : Nat) (p : List UInt8) : Option (List UInt8) :=
  if qall h p p.length = false then none
  else if h < 2 then none
  else if (qn p * 2 ^ (8 * (h - 1) + 8)) % 4294967296 ≠ 0 then none
  else some ([UInt8.ofNat (qn p / 65536), UInt8.ofNat (qn p / 256), UInt8.ofNat (qn p)].take (h - 1))
def quadP (p : List UInt8) : Option (List UInt8) := quadH (keepN p p.length) p
theorem ofNat_mod (n : Nat) : (UInt8.ofNat n).toNat = n % 256 := UInt8.toNat_ofNat'
theorem sixN_lt (c : UInt8) : sixN c < 64 := by
  unfold sixN
  have := atZ_lt c 64
  omega
theorem sgn_six {c : UInt8} (h : 0 ≤ atZ c 64) : c = sgn (sixN c) := (sgn_atZ c 64 h).symm
theorem keep4 (a b c d : UInt8) : keepN [a, b, c, d] [a, b, c, d].length = if d = 61 then (if c = 61 then (if b = 61 then (if a = 61 then 0 else 1) else 2) else 3) else 4 := by
  simp only [List.length_cons, List.length_nil, keepN]
  simp
theorem qn4 (a b c d : UInt8) : qn [a, b, c, d] = ((sixN a * 64 + sixN b) * 64 + sixN c) * 64 + sixN d := by simp [qn]
theorem quadP_W {a b c d : UInt8} {bs : List UInt8} (h : quadP [a, b, c, d] = some bs) : quadW bs = [a, b, c, d] ∧ 1 ≤ bs.length ∧ bs.length ≤ 3 := by
  unfold quadP at h
  have hk := keep4 a b c d
  generalize keepN [a, b, c, d] [a, b, c, d].length = k at h hk
  unfold quadH at h
  rw [qn4] at h
  have la := sixN_lt a; have lb := sixN_lt b; have lc := sixN_lt c; have ld := sixN_lt d
  have q0 : sixN 61 = 0 := by decide +kernel
  split at h
  · cases h
  rename_i hall
  simp only [Bool.not_eq_false] at hall
  split at h
  · cases h
  rename_i h2
  split at h
  · cases h
  rename_i h3
  injection h with h
  by_cases hd : d = 61
  · by_cases hc : c = 61
    · by_cases hb : b = 61
      · rw [if_pos hd, if_pos hc, if_pos hb] at hk
        exfalso
        split at hk <;> omega
      · rw [if_pos hd, if_pos hc, if_neg hb] at hk
        subst hd hc hk
        simp [qall, qok] at hall
        have ea := sgn_six hall.1
        have eb := sgn_six hall.2
        rw [q0] at h h3
        simp at h h3
        subst h
        refine ⟨?_, by simp, by simp⟩
        simp only [quadW, ofNat_mod]
        have e1 : ((sixN a * 64 + sixN b) * 64 * 64 / 65536 % 256) / 4 = sixN a := by omega
        have e2 : ((sixN a * 64 + sixN b) * 64 * 64 / 65536 % 256) % 4 * 16 = sixN b := by omega
        rw [e1, e2, ← ea, ← eb]
    · rw [if_pos hd, if_neg hc] at hk
      subst hd hk
      simp [qall, qok] at hall
      have ea := sgn_six hall.1.1
      have eb := sgn_six hall.1.2
      have ec := sgn_six hall.2
      rw [q0] at h h3
      simp at h h3
      subst h
      refine ⟨?_, by simp, by simp⟩
      simp only [quadW, ofNat_mod]
      have e1 : (((sixN a * 64 + sixN b) * 64 + sixN c) * 64 / 65536 % 256) / 4 = sixN a := by omega
      have e2 : (((sixN a * 64 + sixN b) * 64 + sixN c) * 64 / 65536 % 256) % 4 * 16 + (((sixN a * 64 + sixN b) * 64 + sixN c) * 64 / 256 % 256) / 16 = sixN b := by omega
      have e3 : (((sixN a * 64 + sixN b) * 64 + sixN c) * 64 / 256 % 256) % 16 * 4 = sixN c := by omega
      rw [e1, e2, e3, ← ea, ← eb, ← ec]
  · rw [if_neg hd] at hk
    subst hk
    simp [qall, qok] at hall
    have ea := sgn_six hall.1.1.1
    have eb := sgn_six hall.1.1.2
    have ec := sgn_six hall.1.2
    have ed := sgn_six hall.2
    generalize hN : ((sixN a * 64 + sixN b) * 64 + sixN c) * 64 + sixN d = N at h h3
    simp at h
    subst h
    refine ⟨?_, by simp, by simp⟩
    simp only [quadW, ofNat_mod]
    rw [← hN]
    have e1 : ((((sixN a * 64 + sixN b) * 64 + sixN c) * 64 + sixN d) / 65536 % 256) / 4 = sixN a := by omega
    have e2 : ((((sixN a * 64 + sixN b) * 64 + sixN c) * 64 + sixN d) / 65536 % 256) % 4 * 16 + ((((sixN a * 64 + sixN b) * 64 + sixN c) * 64 + sixN d) / 256 % 256) / 16 = sixN b := by omega
    have e3 : ((((sixN a * 64 + sixN b) * 64 + sixN c) * 64 + sixN d) / 256 % 256) % 16 * 4 + ((((sixN a * 64 + sixN b) * 64 + sixN c) * 64 + sixN d) % 256) / 64 = sixN c := by omega
    have e4 : ((((sixN a * 64 + sixN b) * 64 + sixN c) * 64 + sixN d) % 256) % 64 = sixN d := by omega
    rw [e1, e2, e3, e4, ← ea, ← eb, ← ec, ← ed]
theorem six_sgn {m : Nat} (h : m < 64) : sixN (sgn m) = m := by unfold sixN; rw [atZ_sgn h]; rfl
theorem quadW_P : ∀ bs : List UInt8, 1 ≤ bs.length → bs.length ≤ 3 → quadP (quadW bs) = some bs
  | [], h, _ => by simp at h
  | [x], _, _ => by
    have hx := x.toNat_lt
    have l1 : x.toNat / 4 < 64 := by omega
    have l2 : x.toNat % 4 * 16 < 64 := by omega
    simp only [quadW, quadP]
    rw [keep4, if_pos rfl, if_pos rfl, if_neg (sgn_pad l2)]
    simp only [quadH]
    rw [qn4, six_sgn l1, six_sgn l2, show sixN 61 = 0 by decide +kernel]
    rw [if_neg (by simp [qall, qok, atZ_sgn l1, atZ_sgn l2]; omega), if_neg (by omega), if_neg (by simp; omega)]
    simp
    apply UInt8.toNat_inj.1
    rw [ofNat_mod]
    omega
  | [x, y], _, _ => by
    have hx := x.toNat_lt; have hy := y.toNat_lt
    have l1 : x.toNat / 4 < 64 := by omega
    have l2 : x.toNat % 4 * 16 + y.toNat / 16 < 64 := by omega
    have l3 : y.toNat % 16 * 4 < 64 := by omega
    simp only [quadW, quadP]
    rw [keep4, if_pos rfl, if_neg (sgn_pad l3)]
    simp only [quadH]
    rw [qn4, six_sgn l1, six_sgn l2, six_sgn l3, show sixN 61 = 0 by decide +kernel]
    rw [if_neg (by simp [qall, qok, atZ_sgn l1, atZ_sgn l2, atZ_sgn l3]; omega), if_neg (by omega), if_neg (by simp; omega)]
    simp
    constructor <;> (apply UInt8.toNat_inj.1; rw [ofNat_mod]; omega)
  | [x, y, z], _, _ => by
    have hx := x.toNat_lt; have hy := y.toNat_lt; have hz := z.toNat_lt
    have l1 : x.toNat / 4 < 64 := by omega
    have l2 : x.toNat % 4 * 16 + y.toNat / 16 < 64 := by omega
    have l3 : y.toNat % 16 * 4 + z.toNat / 64 < 64 := by omega
    have l4 : z.toNat % 64 < 64 := by omega
    simp only [quadW, quadP]
    rw [keep4, if_neg (sgn_pad l4)]
    simp only [quadH]
    rw [qn4, six_sgn l1, six_sgn l2, six_sgn l3, six_sgn l4]
    rw [if_neg (by simp [qall, qok, atZ_sgn l1, atZ_sgn l2, atZ_sgn l3, atZ_sgn l4]; omega), if_neg (by omega), if_neg (by simp)]
    generalize hN : ((x.toNat / 4 * 64 + (x.toNat % 4 * 16 + y.toNat / 16)) * 64 + (y.toNat % 16 * 4 + z.toNat / 64)) * 64 + z.toNat % 64 = N
    simp
    refine ⟨?_, ?_, ?_⟩ <;> (apply UInt8.toNat_inj.1; rw [ofNat_mod]; omega)
  | _ :: _ :: _ :: _ :: _, _, h => by simp at h
/-- What Read makes of the rest of a text, behind what has been read. -/
def readL (tl : Nat) : List UInt8 → List UInt8 → Option (List UInt8)
  | out, a :: b :: c :: d :: r => match quadP [a, b, c, d] with
    | none => none
    | some bs => if bs.length < 3 ∧ out.length / 3 * 4 + 4 < tl then none else readL tl (out ++ bs) r
  | out, _ => some out
def readP (t : List UInt8) : Option (List UInt8) := if t.length % 4 ≠ 0 then none else readL t.length [] t
theorem quadW_len : ∀ l : List UInt8, 1 ≤ l.length → l.length ≤ 3 → (quadW l).length = 4
  | [], h, _ => by simp at h
  | [_], _, _ => rfl
  | [_, _], _, _ => rfl
  | [_, _, _], _, _ => rfl
  | _ :: _ :: _ :: _ :: _, _, h => by simp at h
theorem b64_len4 : ∀ l : List UInt8, (b64 l).length % 4 = 0
  | a :: b :: c :: r => by
    have e : b64 (a :: b :: c :: r) = sgn (a.toNat / 4) :: sgn (a.toNat % 4 * 16 + b.toNat / 16) :: sgn (b.toNat % 16 * 4 + c.toNat / 64) :: sgn (c.toNat % 64) :: b64 r := by cases r <;> rfl
    have := b64_len4 r
    rw [e]
    simp only [List.length_cons]
    omega
  | [a, b] => by simp [b64]
  | [a] => by simp [b64]
  | [] => by simp [b64]
theorem b64_nil {l : List UInt8} (h : b64 l = []) : l = [] := by
  match l with
  | [] => rfl
  | [_] => simp [b64] at h
  | [_, _] => simp [b64] at h
  | _ :: _ :: _ :: r => cases r <;> simp [b64] at h
theorem readL_iff (tl : Nat) : ∀ (n : Nat) (r out x : List UInt8), r.length = 4 * n → out.length % 3 = 0 → out.length / 3 * 4 + r.length = tl → (readL tl out r = some x ↔ ∃ y, x = out ++ y ∧ b64 y = r)
  | 0, r, out, x, hr, ho, ht => by
    obtain rfl : r = [] := List.eq_nil_of_length_eq_zero (by omega)
    simp only [readL]
    constructor
    · intro h; injection h with h; exact ⟨[], by simp [h], rfl⟩
    · rintro ⟨y, rfl, h⟩
      rw [b64_nil h, List.append_nil]
  | n + 1, r, out, x, hr, ho, ht => by
    match r, hr with
    | a :: b :: c :: d :: r, hr =>
      simp only [List.length_cons] at hr ht
      rw [readL]
      constructor
      · intro h
        split at h
        · cases h
        rename_i bs hq
        obtain ⟨q1, q2, q3⟩ := quadP_W hq
        split at h
        · cases h
        rename_i hlt
        by_cases hb : bs.length = 3
        · have ho2 : (out ++ bs).length % 3 = 0 := by rw [List.length_append]; omega
          have ht2 : (out ++ bs).length / 3 * 4 + r.length = tl := by rw [List.length_append]; omega
          obtain ⟨y, rfl, hy⟩ := (readL_iff tl n r (out ++ bs) x (by omega) ho2 ht2).1 h
          refine ⟨bs ++ y, by simp, ?_⟩
          rw [b64_chunk, List.take_left' hb, List.drop_left' hb, q1, hy]
          rfl
        · have hr0 : r = [] := List.eq_nil_of_length_eq_zero (by omega)
          subst hr0
          simp only [readL] at h
          injection h with h
          refine ⟨bs, h.symm, ?_⟩
          rw [b64_chunk, List.take_of_length_le (by omega), List.drop_eq_nil_of_le (by omega), q1]
          rfl
      · rintro ⟨y, rfl, hy⟩
        have hy0 : y ≠ [] := fun e => by subst e; cases hy
        have hy1 : 1 ≤ (y.take 3).length := by
          cases y with
          | nil => exact absurd rfl hy0
          | cons => simp
        have hy2 : (y.take 3).length ≤ 3 := by simp; omega
        have hl := quadW_len _ hy1 hy2
        rw [b64_chunk] at hy
        have e1 : quadW (y.take 3) = [a, b, c, d] := by
          have := congrArg (fun l => l.take 4) hy
          simpa [List.take_left' hl] using this
        have e2 : b64 (y.drop 3) = r := by
          have := congrArg (fun l => l.drop 4) hy
          simpa [List.drop_left' hl] using this
        have hq := quadW_P _ hy1 hy2
        rw [e1] at hq
        rw [hq]
        simp only
        by_cases hb : (y.take 3).length = 3
        · rw [if_neg (by omega)]
          refine (readL_iff tl n r (out ++ y.take 3) (out ++ y) (by omega) (by rw [List.length_append]; omega) (by rw [List.length_append]; omega)).2 ⟨y.drop 3, ?_, e2⟩
          rw [List.append_assoc, List.take_append_drop]
        · have hd : y.drop 3 = [] := List.drop_eq_nil_of_le (by simp at hb; omega)
          rw [hd] at e2
          have hr0 : r = [] := by rw [← e2]; rfl
          subst hr0
          simp only [List.length_nil] at ht
          rw [if_neg (by omega)]
          simp only [readL]
          rw [List.take_of_length_le (by simp at hb; omega)]
    | [], hr => simp at hr
    | [_], hr => simp at hr; omega
    | [_, _], hr => simp at hr; omega
    | [_, _, _], hr => simp at hr; omega
theorem readP_iff (t x : List UInt8) : readP t = some x ↔ b64 x = t := by
  unfold readP
  constructor
  · intro h
    split at h
    · cases h
    rename_i h4
    obtain ⟨y, rfl, hy⟩ := (readL_iff t.length (t.length / 4) t [] x (by omega) rfl (by simp)).1 h
    exact hy
  · intro h
    have := b64_len4 x
    rw [h] at this
    rw [if_neg (by omega)]
    exact (readL_iff t.length (t.length / 4) t [] x (by omega) rfl (by simp)).2 ⟨x, rfl, h⟩
/-- What the program reads is what the document reads. -/
theorem readP_r64 (t : List UInt8) : readP t = if b64 (r64 t) = t then some (r64 t) else none := by
  split
  · rename_i h
    exact (readP_iff t _).2 h
  · rename_i h
    cases hr : readP t with
    | none => rfl
    | some x =>
      have hx := (readP_iff t x).1 hr
      exact absurd (by rw [← hx, r64_b64]) h
theorem readP_b64 (l : List UInt8) : readP (b64 l) = some l := (readP_iff _ _).2 rfl
end Go.Proofs.YtmmjgbdihgdekaaDoor

/- IndexByte, Index, Cut, At. -/
namespace Go.Proofs.YtmmjgbdihgdekaaDoor
open Go Go.RowKit
set_option linter.unusedSimpArgs false
set_option linter.unusedVariables false
set_option maxRecDepth 100000
set_option maxHeartbeats 4000000
/-- The first place of a byte; -1: none. -/
def idxB (l : List UInt8) (b : UInt8) : Int := if l.contains b then (l.idxOf b : Int) else -1
theorem find_range {p : Nat → Bool} {q : UInt8 → Bool} : ∀ (l : List UInt8) (k : Nat), (∀ i (h : i < l.length), p (k + i) = q l[i]) → (List.range' k l.length).find? p = (l.findIdx? q).map (k + ·)
  | [], k, _ => rfl
  | a :: r, k, h => by
    have h0 := h 0 (by simp)
    simp only [Nat.add_zero, List.getElem_cons_zero] at h0
    have ih := find_range (p := p) (q := q) r (k + 1) (fun i hi => by
      have := h (i + 1) (by simpa using hi)
      rw [show k + 1 + i = k + (i + 1) by omega, this]
      rfl)
    rw [List.length_cons, List.range'_succ, List.find?_cons, List.findIdx?_cons, h0, ih]
    cases q a
    · simp only [Bool.false_eq_true, if_false]
      cases r.findIdx? q
      · rfl
      · simp only [Option.map_some]; congr 1; omega
    · simp
theorem find_idx (l : List UInt8) (b : UInt8) : (match (List.range (⟨l.toArray⟩ : ByteArray).size).find? (fun i => (⟨l.toArray⟩ : ByteArray)[i]! == b) with | some i => (i : Int) | none => -1) = idxB l b := by
  have h := find_range (p := fun i => (⟨l.toArray⟩ : ByteArray)[i]! == b) (q := fun x => x == b) l 0 (fun i hi => by
    have : (⟨l.toArray⟩ : ByteArray)[i]! = l[i] := by
      rw [getElem!_pos (⟨l.toArray⟩ : ByteArray) i (by exact hi)]
      rfl
    simp only [Nat.zero_add, this])
  rw [str_size, List.range_eq_range', h]
  unfold idxB
  by_cases hb : l.contains b = true
  · rw [if_pos hb]
    have : l.findIdx? (fun x => x == b) = some (l.idxOf b) := by
      rw [List.findIdx?_eq_some_iff_findIdx_eq]
      refine ⟨?_, rfl⟩
      exact List.findIdx_lt_length_of_exists ⟨b, by simpa using hb, by simp⟩
    rw [this]
    simp
  · rw [if_neg hb]
    have : l.findIdx? (fun x => x == b) = none := by
      rw [List.findIdx?_eq_none_iff]
      intro x hx
      simp only [beq_eq_false_iff_ne, ne_eq]
      rintro rfl
      exact hb (by simpa using hx)
    rw [this]
    rfl
theorem argB_roB (l : List UInt8) (H : Heap) : argB H (roB l) = some (.string ⟨l.toArray⟩) := by
  simp only [argB, roB, velems, List.length_map, Nat.mul_one, if_true, vbytes_map]
theorem ext_index (l : List UInt8) (b : UInt8) (H : Heap) : vextern Tryd.prog 164 [roB l, bV b] H = some (iV (idxB l b)) := by
  have hf := Tryd.func164
  have hr : extRow Tryd.f164.name = some Extern.BytealgIndexByte.indexByte := by kernel_rfl
  have hb : Tryd.f164.body = none := rfl
  have ho : Tryd.f164.origin = "" := rfl
  have hp : pureRun Tryd.prog (Extern.BytealgIndexByte.indexByte #[.string ⟨l.toArray⟩, .int .u8 (b.toNat : Int)]) = some (.int .i64 (idxB l b)) := by
    rw [← find_idx, ib_eq]
    have e1 : Extern.Bytes.bytesOf (.string ⟨l.toArray⟩) = pure ⟨l.toArray⟩ := rfl
    have e2 : Extern.Bytes.asByte (.int .u8 (b.toNat : Int)) = pure b := by
      show (pure ((b.toNat : Int).toNat.toUInt8) : Sem UInt8) = pure b
      congr 1
      simp
    rw [e1, e2]
    show pureRun Tryd.prog (match (List.range (⟨l.toArray⟩ : ByteArray).size).find? (fun i => (⟨l.toArray⟩ : ByteArray)[i]! == b) with
      | some i => pure (goInt i)
      | none => pure (goInt (-1))) = _
    cases (List.range (⟨l.toArray⟩ : ByteArray).size).find? (fun i => (⟨l.toArray⟩ : ByteArray)[i]! == b) <;> rfl
  simp only [vextern, hf, hb, ho, if_true, hr, bV, argB_roB]
  rw [hp]
  rfl
/-- A heap with one byte in it. -/
def H1 (b : UInt8) : Heap := ⟨[(0, .cells true [bV b])], 1⟩
end Go.Proofs.YtmmjgbdihgdekaaDoor

/- The program's quad, walked. -/
namespace Go.Proofs.YtmmjgbdihgdekaaDoor
open Go Go.RowKit
set_option linter.unusedSimpArgs false
set_option linter.unusedVariables false
set_option maxRecDepth 100000
set_option maxHeartbeats 4000000
/-- The first so many bytes. -/
def roT (l : List UInt8) (n : Nat) : VV := .ro n ((l.take n).map bV)
theorem nameless_roT (l : List UInt8) (n : Nat) : Nameless (roT l n) := nameless_ro (nameless_map nameless_bV _)
theorem roB_roT (l : List UInt8) : roB l = roT l l.length := by unfold roT roB; rw [List.take_of_length_le (Nat.le_refl _)]
theorem ro_take {l : List UInt8} {n m m' z : Nat} (hz : z = 1) (hm : m' = m) (h : m ≤ n) : VV.ro (m' - 0) ((((l.take n).map bV).drop (0 * z)).take ((m' - 0) * z)) = roT l m := by
  subst hz hm
  unfold roT
  simp [← List.map_take, List.take_take, Nat.min_eq_left h]
theorem taken_at {l : List UInt8} {n i : Nat} {b : UInt8} (h : l[i]? = some b) (hi : i < n) : ((l.take n).map bV)[i]? = some (bV b) := by
  rw [List.getElem?_map, List.getElem?_take_of_lt hi, h]; rfl
theorem keepN_61 {l : List UInt8} {n : Nat} (h : l[n]? = some 61) : keepN l (n + 1) = keepN l n := by rw [keepN, if_pos h]
theorem keepN_no {l : List UInt8} {n : Nat} {b : UInt8} (h : l[n]? = some b) (hb : b ≠ 61) : keepN l (n + 1) = n + 1 := by rw [keepN, if_neg (by rw [h]; simpa using hb)]
theorem bne_u8 {b c : UInt8} (h : ¬ (b.toNat : Int) = (c.toNat : Int)) : b ≠ c := fun e => h (by rw [e])
theorem beq_u8 {b c : UInt8} (h : (b.toNat : Int) = (c.toNat : Int)) : b = c := UInt8.toNat_inj.1 (by omega)
theorem trimByte_call (l : List UInt8) (H : Heap) (hl : l.length ≤ 1000) : VCall Tryd.prog 169 [roB l, bV 61] H (fun x K => x = roT l (keepN l l.length) ∧ K = H) := by
  refine VCall.pure (by simp [nameless_roB, nameless_bV]) (nameless_roT _ _) ?_
  rw [roB_roT]
  refine VCall.go Tryd.func169 rfl ?_
  repeat' (first | with_reducible refine And.intro ?_ ?_ | ((with_reducible intro hc); (try simp only [zA, zB, zC, zD, zE, zF, zG, zH, zI, zJ, zK, zL, zM, zN, zO, zP, zQ, zR, zS, zT, zU, zV, zW] at hc); (first | (exact absurd rfl hc) | (exact absurd trivial hc) | (exfalso; omega) | skip)) | ((conv => whnf); first | with_reducible refine And.intro ?_ ?_ | refine ifB_intro ?_ ?_ | refine xA (by omega) ?_ | ((refine xB ?_); intro kw hk1 hk2) | refine xC (by omega) ?_ | refine xD ?_ | refine xE (by omega) ?_ | refine xF (by omega) ?_ | refine xG ?_ | refine xH ?_ | refine xI (by omega) ?_ | refine xJ (by omega) ?_ | (with_reducible refine stopA ?_) | refine Exists.intro _ (And.intro (by rfl) ?_) | refine GOp.via (by rfl) ?_ | (with_reducible first | refine stopO ?_ | refine stopE ?_ | refine stopD ?_ | refine stopW ?_ | refine stopG ?_ | refine stopC ?_ | refine stopR ?_)))
  refine GWP'.mk (GWP.loopB (α := Nat) [] (fun n => n ≤ l.length ∧ keepN l n = keepN l l.length) (fun n => [(0, roT l n)]) (fun _ => []) 0 (fun n => n) l.length ⟨Nat.le_refl _, rfl⟩ ?_)
  conv => whnf
  refine And.intro ⟨rfl, rfl, (by repeat' (first | exact trivial | refine And.intro rfl ?_)), [], _, rfl, ⟨⟨_, rfl, .of (nameless_roT _ _)⟩, trivial⟩, .nil⟩ ?_
  rintro n ⟨hn, hk⟩
  cases n with
  | zero =>
    have hr : roT l (keepN l l.length) = .ro 0 [] := by rw [← hk]; rfl
    rw [hr]
    repeat' (first | with_reducible refine And.intro ?_ ?_ | ((with_reducible intro hc); (try simp only [zA, zB, zC, zD, zE, zF, zG, zH, zI, zJ, zK, zL, zM, zN, zO, zP, zQ, zR, zS, zT, zU, zV, zW] at hc); (first | (exact absurd rfl hc) | (exact absurd trivial hc) | (exfalso; omega) | skip)) | ((conv => whnf); first | with_reducible refine And.intro ?_ ?_ | refine ifB_intro ?_ ?_ | refine xA (by omega) ?_ | ((refine xB ?_); intro kw hk1 hk2) | refine xC (by omega) ?_ | refine xD ?_ | refine xE (by omega) ?_ | refine xF (by omega) ?_ | refine xG ?_ | refine xH ?_ | refine xI (by omega) ?_ | refine xJ (by omega) ?_ | (with_reducible refine stopA ?_) | refine Exists.intro _ (And.intro (by rfl) ?_) | refine GOp.via (by rfl) ?_ | (with_reducible first | refine stopO ?_ | refine stopE ?_ | refine stopD ?_ | refine stopW ?_ | refine stopG ?_ | refine stopC ?_ | refine stopR ?_)))
    all_goals (first | omega | exact Done'.mk rfl)
  | succ n =>
    obtain ⟨b, hb⟩ : ∃ b, l[n]? = some b := ⟨l[n], List.getElem?_eq_getElem (by omega)⟩
    repeat' (first | with_reducible refine And.intro ?_ ?_ | ((with_reducible intro hc); (try simp only [zA, zB, zC, zD, zE, zF, zG, zH, zI, zJ, zK, zL, zM, zN, zO, zP, zQ, zR, zS, zT, zU, zV, zW] at hc); (first | (exact absurd rfl hc) | (exact absurd trivial hc) | (exfalso; omega) | skip)) | ((conv => whnf); first | with_reducible refine And.intro ?_ ?_ | refine ifB_intro ?_ ?_ | refine xA (by omega) ?_ | ((refine xB ?_); intro kw hk1 hk2) | refine xC (by omega) ?_ | refine xD ?_ | refine xE (by omega) ?_ | refine xF (by omega) ?_ | refine xG ?_ | refine xH ?_ | refine xI (by omega) ?_ | refine xJ (by omega) ?_ | (with_reducible refine stopA ?_) | refine Exists.intro _ (And.intro (by (first | exact vat_of vagg_u8 (taken_at (n := n + 1) hb (by omega)) (mul1 rfl (by omega)) | rfl)) ?_) | refine GOp.via (by rfl) ?_ | (with_reducible first | refine stopO ?_ | refine stopE ?_ | refine stopD ?_ | refine stopW ?_ | refine stopG ?_ | refine stopC ?_ | refine stopR ?_)))
    all_goals (first | omega | skip)
    · have hb61 : b = 61 := beq_u8 hc
      subst hb61
      exact Done'.mk ⟨n, ⟨by omega, by rw [← hk, keepN_61 hb]⟩, by omega, rfl, rfl, (by repeat' (first | exact trivial | refine And.intro rfl ?_)), [], _, rfl, ⟨⟨_, rfl, RenV.eq (ro_take rfl (by omega) (by omega)) (nameless_roT _ _)⟩, trivial⟩, .nil⟩
    · rw [← hk, keepN_no hb (bne_u8 hc)]
      exact Done'.mk rfl
theorem trim_call (l : List UInt8) (H : Heap) (hl : l.length ≤ 1000) : VCall Tryd.prog 145 [roB l, strV [61]] H (fun x K => x = roT l (keepN l l.length) ∧ K = H) := by
  refine VCall.pure (by simp [nameless_roB, nameless_strV]) (nameless_roT _ _) ?_
  refine VCall.go Tryd.func145 rfl ?_
  repeat' (first | with_reducible refine And.intro ?_ ?_ | ((with_reducible intro hc); (try simp only [zA, zB, zC, zD, zE, zF, zG, zH, zI, zJ, zK, zL, zM, zN, zO, zP, zQ, zR, zS, zT, zU, zV, zW] at hc); (first | (exact absurd rfl hc) | (exact absurd trivial hc) | (exfalso; omega) | skip)) | ((conv => whnf); first | with_reducible refine And.intro ?_ ?_ | refine ifB_intro ?_ ?_ | refine xA (by omega) ?_ | ((refine xB ?_); intro kw hk1 hk2) | refine xC (by omega) ?_ | refine xD ?_ | refine xE (by omega) ?_ | refine xF (by omega) ?_ | refine xG ?_ | refine xH ?_ | refine xI (by omega) ?_ | refine xJ (by omega) ?_ | (with_reducible refine stopA ?_) | refine Exists.intro _ (And.intro (by rfl) ?_) | refine GOp.via (by rfl) ?_ | (with_reducible first | refine stopO ?_ | refine stopE ?_ | refine stopD ?_ | refine stopW ?_ | refine stopG ?_) | (refine GCall.mk ((trimByte_call l _ hl).mono ?_); rintro _ _ ⟨rfl, rfl⟩) | (with_reducible refine stopC ?_) | (with_reducible refine stopR ?_)))
  all_goals (first | omega | skip)
  · have : l = [] := List.eq_nil_of_length_eq_zero (by omega)
    subst this
    exact Done'.mk rfl
  · exact Done'.mk rfl
theorem idx_atZ : ∀ k : Fin 256, idxB sgnT (UInt8.ofNat k.val) = atZ (UInt8.ofNat k.val) 64 := by decide +kernel
theorem idx_sgn (c : UInt8) : idxB sgnT c = atZ c 64 := by
  have := idx_atZ ⟨c.toNat, c.toNat_lt⟩
  simpa using this
theorem xindex_call (l : List UInt8) (b : UInt8) (H : Heap) : VCall Tryd.prog 133 [roB l, bV b] H (fun x K => x = iV (idxB l b) ∧ K = H) := by
  refine VCall.go Tryd.func133 rfl ?_
  repeat' (first | with_reducible refine And.intro ?_ ?_ | ((with_reducible intro hc); (try simp only [zA, zB, zC, zD, zE, zF, zG, zH, zI, zJ, zK, zL, zM, zN, zO, zP, zQ, zR, zS, zT, zU, zV, zW] at hc); (first | (exact absurd rfl hc) | (exact absurd trivial hc) | (exfalso; omega) | skip)) | ((conv => whnf); first | with_reducible refine And.intro ?_ ?_ | refine ifB_intro ?_ ?_ | refine xA (by omega) ?_ | ((refine xB ?_); intro kw hk1 hk2) | refine xC (by omega) ?_ | refine xD ?_ | refine xE (by omega) ?_ | refine xF (by omega) ?_ | refine xG ?_ | refine xH ?_ | refine xI (by omega) ?_ | refine xJ (by omega) ?_ | (with_reducible refine stopA ?_) | refine Exists.intro _ (And.intro (by rfl) ?_) | refine GOp.via (by rfl) ?_ | (with_reducible first | refine stopO ?_ | refine stopE ?_ | refine stopD ?_ | refine stopW ?_ | refine stopG ?_ | refine stopC ?_ | refine stopR ?_)))
  refine GExt'.via (ext_index l b H) ?_
  repeat' (first | with_reducible refine And.intro ?_ ?_ | ((with_reducible intro hc); (try simp only [zA, zB, zC, zD, zE, zF, zG, zH, zI, zJ, zK, zL, zM, zN, zO, zP, zQ, zR, zS, zT, zU, zV, zW] at hc); (first | (exact absurd rfl hc) | (exact absurd trivial hc) | (exfalso; omega) | skip)) | ((conv => whnf); first | with_reducible refine And.intro ?_ ?_ | refine ifB_intro ?_ ?_ | refine xA (by omega) ?_ | ((refine xB ?_); intro kw hk1 hk2) | refine xC (by omega) ?_ | refine xD ?_ | refine xE (by omega) ?_ | refine xF (by omega) ?_ | refine xG ?_ | refine xH ?_ | refine xI (by omega) ?_ | refine xJ (by omega) ?_ | (with_reducible refine stopA ?_) | refine Exists.intro _ (And.intro (by rfl) ?_) | refine GOp.via (by rfl) ?_ | (with_reducible first | refine stopO ?_ | refine stopE ?_ | refine stopD ?_ | refine stopW ?_ | refine stopG ?_ | refine stopC ?_ | refine stopR ?_)))
  exact Done'.mk ⟨rfl, rfl⟩
def sgnI : List Int := [65, 66, 67, 68, 69, 70, 71, 72, 73, 74, 75, 76, 77, 78, 79, 80, 81, 82, 83, 84, 85, 86, 87, 88, 89, 90, 97, 98, 99, 100, 101, 102, 103, 104, 105, 106, 107, 108, 109, 110, 111, 112, 113, 114, 115, 116, 117, 118, 119, 120, 121, 122, 48, 49, 50, 51, 52, 53, 54, 55, 56, 57, 43, 47]
def sgnV : List VV := sgnI.map fun n => .sc (.int .u8 n)
theorem sgnV_eq : sgnV = sgnT.map bV := by kernel_rfl
theorem xindex_sgn {H : Heap} {b : Nat} {c : UInt8} {z : Int} (hz : atZ c 64 = z) (hg : H.get b = some (.cells true sgnV)) : VCall Tryd.prog 133 [.sl b 0 64 (some 64) 1, bV c] H (fun x K => x = iV z ∧ K = H) := by
  rw [← hz, ← idx_sgn]
  refine VCall.viewed (args' := [roB sgnT, bV c]) (Q := fun v K => v = iV (idxB sgnT c)) (.cons (view_by (d := sgnT) hg sgnV_eq rfl) (.cons (View.of (nameless_bV c)) .nil)) ((xindex_call sgnT c _).mono fun x K e => e.1) (fun v K e => by subst e; exact Frx.of (exact_sc _))
theorem qall_bad {h : Nat} {p : List UInt8} {i : Nat} {c : UInt8} (hc : p[i]? = some c) (hq : qok h i c = false) : ∀ n, i < n → qall h p n = false
  | 0, hn => by omega
  | n + 1, hn => by
    unfold qall
    by_cases e : i = n
    · subst e
      rw [hc]
      simp [hq]
    · rw [qall_bad hc hq n (by omega)]
      rfl
theorem qall_next {h : Nat} {p : List UInt8} {i : Nat} {c : UInt8} (hc : p[i]? = some c) (ha : qall h p i = true) (hq : qok h i c = true) : qall h p (i + 1) = true := by
  unfold qall
  rw [ha, hc]
  simp [hq]
theorem qn_next {p : List UInt8} {i : Nat} {c : UInt8} (hc : p[i]? = some c) : qn (p.take (i + 1)) = qn (p.take i) * 64 + sixN c := by
  rw [take_next hc]
  unfold qn
  rw [List.foldl_append]
  rfl
theorem or_shl6 {N s : Nat} (hN : N * 64 < 2 ^ 64) (hs : s < 64) {z : Int} (hz : z = (s : Int)) : bitZ .or .u64 (shlZ .u64 (N : Int) 6) z = ((N * 64 + s : Nat) : Int) := by
  subst hz
  have h1 := shl_u64 (a := N) (k := 6) (by omega) (by omega)
  have e1 : ((6 : Nat) : Int) = 6 := rfl
  rw [e1] at h1
  rw [h1, or_u64 (by omega) (by omega)]
  have h5 := Nat.shiftLeft_add_eq_or_of_lt (i := 6) (b := s) (by omega) N
  rw [Nat.shiftLeft_eq] at h5
  rw [← h5]
theorem max_six (c : UInt8) : maxZ (atZ c 64) 0 = (sixN c : Int) := by
  unfold maxZ sixN
  have := atZ_lt c 64
  split <;> omega
theorem qn_lt : ∀ (p : List UInt8), qn p < 64 ^ p.length := by
  have key : ∀ (p : List UInt8) (n m : Nat), n < m → p.foldl (fun n c => n * 64 + sixN c) n < m * 64 ^ p.length := by
    intro p
    induction p with
    | nil => intro n m h; simpa using h
    | cons c r ih =>
      intro n m h
      have := ih (n * 64 + sixN c) (m * 64) (by have := sixN_lt c; omega)
      simp only [List.foldl_cons, List.length_cons]
      rw [Nat.pow_succ, Nat.mul_comm (64 ^ r.length), ← Nat.mul_assoc]
      exact this
  intro p
  have := key p 0 1 (by omega)
  simpa [qn] using this
/-- What quad hands back. -/
def quadR (p : List UInt8) : VV := match quadP p with
  | some bs => .tp [roB bs, booV true]
  | none => .tp [.ro 0 [], booV false]
theorem quadR_none {p : List UInt8} (h : quadP p = none) : quadR p = .tp [.ro 0 [], booV false] := by unfold quadR; rw [h]
theorem quadR_some {p bs : List UInt8} (h : quadP p = some bs) : quadR p = .tp [roB bs, booV true] := by unfold quadR; rw [h]
theorem low_and {N k : Nat} (hk : k ≤ 32) (hN : N < 16777216) : bitZ .and .u64 (shlZ .u64 (N : Int) (k : Int)) 4294967295 = ((N * 2 ^ k % 4294967296 : Nat) : Int) := by
  have hp : 2 ^ k ≤ 2 ^ 32 := Nat.pow_le_pow_right (by omega) hk
  have hlt : N * 2 ^ k < 2 ^ 64 := Nat.lt_of_le_of_lt (Nat.mul_le_mul_left N hp) (by omega)
  rw [shl_u64 (by omega) hlt]
  have := and_u64 (a := N * 2 ^ k) (b := 4294967295) hlt (by omega)
  refine Eq.trans this ?_
  rw [show (4294967295 : Nat) = 2 ^ 32 - 1 by rfl, Nat.and_two_pow_sub_one_eq_mod]
theorem shr_byte {N : Nat} (k : Nat) (hk : k ≤ 64) : (shrZ .u64 (N : Int) (k : Int)) % 256 = ((UInt8.ofNat (N / 2 ^ k)).toNat : Int) := by
  rw [shr_u64 hk, ofNat_mod]
  omega
theorem quad_call (p : List UInt8) (H : Heap) (hp : p.length = 4) : VCall Tryd.prog 111 [roB p] H (fun x K => x = quadR p ∧ K = H) := by
  refine VCall.frozen (Q := fun v K => Frz K v (quadR p)) (by simp [nameless_roB]) ?_ (fun v K h => h)
  obtain ⟨h, hh⟩ : ∃ h, keepN p p.length = h := ⟨_, rfl⟩
  have hle : h ≤ 4 := by have := keepN_le p p.length; omega
  have hR : quadP p = quadH h p := by unfold quadP; rw [hh]
  refine VCall.go Tryd.func111 rfl ?_
  have ht := trim_call p (⟨[], 0⟩ : Heap) (by omega)
  rw [hh] at ht
  repeat' (first | with_reducible refine And.intro ?_ ?_ | ((with_reducible intro hc); (try simp only [zA, zB, zC, zD, zE, zF, zG, zH, zI, zJ, zK, zL, zM, zN, zO, zP, zQ, zR, zS, zT, zU, zV, zW] at hc); (first | (exact absurd rfl hc) | (exact absurd trivial hc) | (exfalso; omega) | skip)) | ((conv => whnf); first | with_reducible refine And.intro ?_ ?_ | refine ifB_intro ?_ ?_ | refine xA (by omega) ?_ | ((refine xB ?_); intro kw hk1 hk2) | refine xC (by omega) ?_ | refine xD ?_ | refine xE (by omega) ?_ | refine xF (by omega) ?_ | refine xG ?_ | refine xH ?_ | refine xI (by omega) ?_ | refine xJ (by omega) ?_ | (with_reducible refine stopA ?_) | refine Exists.intro _ (And.intro (by rfl) ?_) | refine GOp.via (by rfl) ?_ | (with_reducible first | refine stopO ?_ | refine stopE ?_ | refine stopD ?_ | refine stopW ?_ | refine stopG ?_) | (refine GCall.mk ((ht).mono ?_); rintro _ _ ⟨rfl, rfl⟩) | (with_reducible refine stopC ?_) | (with_reducible refine stopR ?_)))
  all_goals (first | omega | skip)
  (refine GWP'.mk (GWP.loopB [] (fun i => i ≤ 4 ∧ qall h p i = true) (fun i => [(5, .sc (.int .u64 (qn (p.take i) : Nat))), (15, iV i)]) (fun _ => []) 0 (fun i => 4 - i) 0 ⟨by omega, rfl⟩ ?_); (conv => whnf); refine And.intro ?_ ?_)
  · focus (refine KeptA.of [] rfl rfl (by repeat' (first | exact trivial | refine And.intro rfl ?_)) rfl ?_ ?_; all_goals (repeat' (first | exact trivial | (refine And.intro ?_ ?_) | (refine Exists.intro _ (And.intro rfl ?_)) | (refine RenO.opt ?_) | (refine RenO.toOpt ?_) | (refine RenO.cells ?_) | exact RenO.defs | exact RenL.nil | (refine RenL.cons ?_ ?_) | (first | exact RenV.eq rfl (nameless_sc _) | (with_reducible exact RenV.sc) | exact RenV.gsN | exact RenV.gsZ | exact RenV.gsL (by decide) | exact RenV.slL (by decide) | ((first | refine RenV.gsE (by (first | exact List.Mem.head _ | exact List.Mem.tail _ (List.Mem.head _) | exact List.Mem.tail _ (List.Mem.tail _ (List.Mem.head _)) | (simp; done))) ?_ | refine RenV.eq (scI_eq ?_) (nameless_sc _)); (first | rfl | omega | (simp only [List.length_append, List.length_cons, List.length_nil, List.length_map, List.length_take, List.length_drop] <;> omega) | (simp only <;> omega) | (simp <;> omega))) | exact RenV.undef) | (with_unfolding_all exact (rfl : (_ : VObj) = _)))))
  rintro i ⟨hi, hq⟩
  by_cases hi4 : i < 4
  · obtain ⟨c, hpc⟩ : ∃ c, p[i]? = some c := ⟨p[i], List.getElem?_eq_getElem (by omega)⟩
    have hm := max_six c
    have h6 := sixN_lt c
    have hqn := qn_next hpc
    have hql := qn_lt (p.take i)
    have hqp : 64 ^ (p.take i).length ≤ 64 ^ 3 := Nat.pow_le_pow_right (by omega) (by simp; omega)
    have hor := or_shl6 (N := qn (p.take i)) (s := sixN c) (by omega) h6 hm
    have hb : ∀ n, i < n → qok h i c = false → qall h p n = false := fun n h1 h2 => qall_bad hpc h2 n h1
    have hg : qok h i c = true → qall h p (i + 1) = true := qall_next hpc hq
    have hbad : qok h i c = false → quadR p = .tp [.ro 0 [], booV false] := fun e => quadR_none (by rw [hR]; unfold quadH; rw [if_pos (hb _ (by omega) e)])
    have hk1 : i < h → (qok h i c = decide (0 ≤ atZ c 64)) := fun e => by unfold qok; rw [if_pos e]
    have hk2 : ¬ i < h → (qok h i c = (c == 61)) := fun e => by unfold qok; rw [if_neg e]
    generalize qn (p.take i) = N at *
    generalize hz : atZ c 64 = z at *
    repeat' (first | with_reducible refine And.intro ?_ ?_ | ((with_reducible intro hc); (try simp only [zA, zB, zC, zD, zE, zF, zG, zH, zI, zJ, zK, zL, zM, zN, zO, zP, zQ, zR, zS, zT, zU, zV, zW] at hc); (first | (exact absurd rfl hc) | (exact absurd trivial hc) | (exfalso; omega) | skip)) | ((conv => whnf); first | with_reducible refine And.intro ?_ ?_ | refine ifB_intro ?_ ?_ | refine xA (by omega) ?_ | ((refine xB ?_); intro kw hk1 hk2) | refine xC (by omega) ?_ | refine xD ?_ | refine xE (by omega) ?_ | refine xF (by omega) ?_ | refine xG ?_ | refine xH ?_ | refine xI (by omega) ?_ | refine xJ (by omega) ?_ | (with_reducible refine stopA ?_) | refine Exists.intro _ (And.intro (by (first | exact vat_of vagg_u8 (map_at hpc) (mul1 rfl (by omega)) | rfl)) ?_) | (refine GOp.via (v := .sl 0 0 64 (some 64) 1) (H' := ⟨[(0, .cells true sgnV)], 1⟩) (by kernel_rfl) ?_) | refine GOp.via (by rfl) ?_ | (with_reducible first | refine stopO ?_ | refine stopE ?_ | refine stopD ?_ | refine stopW ?_ | refine stopG ?_) | (refine GCall.mk ((xindex_sgn (c := c) hz rfl).mono ?_); rintro _ _ ⟨rfl, rfl⟩) | (with_reducible refine stopC ?_) | (with_reducible refine stopR ?_)))
    all_goals (first | omega | skip)
    · refine Done'.mk ?_
      rw [hbad (by rw [hk1 (by omega)]; exact decide_eq_false (by omega))]
      exact Frz.tp (.cons Frz.nil0 (.cons (Frz.of (nameless_sc _)) .nil))
    · have hk : qok h i c = true := by rw [hk1 (by omega)]; exact decide_eq_true (by omega)
      focus (refine Done'.mk ⟨(i + 1), ⟨by omega, hg hk⟩, ?_, KeptA.of [] rfl rfl (by repeat' (first | exact trivial | refine And.intro rfl ?_)) rfl ?_ ?_⟩; (first | omega | (simp only; omega)); all_goals (repeat' (first | exact trivial | (refine And.intro ?_ ?_) | (refine Exists.intro _ (And.intro rfl ?_)) | (refine RenO.opt ?_) | (refine RenO.toOpt ?_) | (refine RenO.cells ?_) | exact RenO.defs | exact RenL.nil | (refine RenL.cons ?_ ?_) | (first | (refine RenV.eq (scI_eq ?_) (nameless_sc _); rw [hqn]; exact hor) | (with_reducible exact RenV.sc) | exact RenV.gsN | exact RenV.gsZ | exact RenV.gsL (by decide) | exact RenV.slL (by decide) | ((first | refine RenV.gsE (by (first | exact List.Mem.head _ | exact List.Mem.tail _ (List.Mem.head _) | exact List.Mem.tail _ (List.Mem.tail _ (List.Mem.head _)) | (simp; done))) ?_ | refine RenV.eq (scI_eq ?_) (nameless_sc _)); (first | rfl | omega | (simp only [List.length_append, List.length_cons, List.length_nil, List.length_map, List.length_take, List.length_drop] <;> omega) | (simp only <;> omega) | (simp <;> omega))) | exact RenV.undef) | (with_unfolding_all exact (rfl : (_ : VObj) = _)))))
    · refine Done'.mk ?_
      rw [hbad (by rw [hk2 (by omega)]; simpa using bne_u8 hc)]
      exact Frz.tp (.cons Frz.nil0 (.cons (Frz.of (nameless_sc _)) .nil))
    · have hk : qok h i c = true := by rw [hk2 (by omega)]; simpa using beq_u8 hc
      focus (refine Done'.mk ⟨(i + 1), ⟨by omega, hg hk⟩, ?_, KeptA.of [] rfl rfl (by repeat' (first | exact trivial | refine And.intro rfl ?_)) rfl ?_ ?_⟩; (first | omega | (simp only; omega)); all_goals (repeat' (first | exact trivial | (refine And.intro ?_ ?_) | (refine Exists.intro _ (And.intro rfl ?_)) | (refine RenO.opt ?_) | (refine RenO.toOpt ?_) | (refine RenO.cells ?_) | exact RenO.defs | exact RenL.nil | (refine RenL.cons ?_ ?_) | (first | (refine RenV.eq (scI_eq ?_) (nameless_sc _); rw [hqn]; exact hor) | (with_reducible exact RenV.sc) | exact RenV.gsN | exact RenV.gsZ | exact RenV.gsL (by decide) | exact RenV.slL (by decide) | ((first | refine RenV.gsE (by (first | exact List.Mem.head _ | exact List.Mem.tail _ (List.Mem.head _) | exact List.Mem.tail _ (List.Mem.tail _ (List.Mem.head _)) | (simp; done))) ?_ | refine RenV.eq (scI_eq ?_) (nameless_sc _)); (first | rfl | omega | (simp only [List.length_append, List.length_cons, List.length_nil, List.length_map, List.length_take, List.length_drop] <;> omega) | (simp only <;> omega) | (simp <;> omega))) | exact RenV.undef) | (with_unfolding_all exact (rfl : (_ : VObj) = _)))))
  · obtain rfl : i = 4 := by omega
    have hp4 : p.take 4 = p := List.take_of_length_le (by omega)
    rw [hp4]
    have hql := qn_lt p
    rw [hp] at hql
    have hq4 : qall h p p.length = true := by rw [hp]; exact hq
    have hs1 : shrZ .u64 ((qn p : Nat) : Int) 16 % 256 = ((UInt8.ofNat (qn p / 65536)).toNat : Int) := shr_byte (N := qn p) 16 (by omega)
    have hs2 : shrZ .u64 ((qn p : Nat) : Int) 8 % 256 = ((UInt8.ofNat (qn p / 256)).toNat : Int) := shr_byte (N := qn p) 8 (by omega)
    have hs3 : ((qn p : Nat) : Int) % 256 = ((UInt8.ofNat (qn p)).toNat : Int) := by rw [ofNat_mod]; omega
    have hcase : h < 2 ∨ h = 2 ∨ h = 3 ∨ h = 4 := by omega
    rcases hcase with h2 | h2 | h2 | h2
    · have hnone : quadR p = .tp [.ro 0 [], booV false] := quadR_none (by rw [hR]; unfold quadH; rw [if_neg (by simp [hq4]), if_pos h2])
      repeat' (first | with_reducible refine And.intro ?_ ?_ | ((with_reducible intro hc); (try simp only [zA, zB, zC, zD, zE, zF, zG, zH, zI, zJ, zK, zL, zM, zN, zO, zP, zQ, zR, zS, zT, zU, zV, zW] at hc); (first | (exact absurd rfl hc) | (exact absurd trivial hc) | (exfalso; omega) | skip)) | ((conv => whnf); first | with_reducible refine And.intro ?_ ?_ | refine ifB_intro ?_ ?_ | refine xA (by omega) ?_ | ((refine xB ?_); intro kw hk1 hk2) | refine xC (by omega) ?_ | refine xD ?_ | refine xE (by omega) ?_ | refine xF (by omega) ?_ | refine xG ?_ | refine xH ?_ | refine xI (by omega) ?_ | refine xJ (by omega) ?_ | (with_reducible refine stopA ?_) | refine Exists.intro _ (And.intro (by rfl) ?_) | refine GOp.via (by rfl) ?_ | (with_reducible first | refine stopO ?_ | refine stopE ?_ | refine stopD ?_ | refine stopW ?_ | refine stopG ?_ | refine stopC ?_ | refine stopR ?_)))
      all_goals (first | omega | skip)
      refine Done'.mk ?_
      rw [hnone]
      exact Frz.tp (.cons Frz.nil0 (.cons (Frz.of (nameless_sc _)) .nil))
    · subst h2
      have hl : bitZ .and .u64 (shlZ .u64 ((qn p : Nat) : Int) (8 * ((((2 : Nat) : Int)) - 1) + 8)) 4294967295 = ((qn p * 2 ^ 16 % 4294967296 : Nat) : Int) := low_and (N := qn p) (k := 16) (by omega) (by omega)
      have hb : quadP p = if qn p * 2 ^ 16 % 4294967296 ≠ 0 then none else some [UInt8.ofNat (qn p / 65536)] := by
        rw [hR]; unfold quadH; rw [if_neg (by simp [hq4]), if_neg (by omega)]; rfl
      generalize qn p = N at *
      repeat' (first | with_reducible refine And.intro ?_ ?_ | ((with_reducible intro hc); (try simp only [zA, zB, zC, zD, zE, zF, zG, zH, zI, zJ, zK, zL, zM, zN, zO, zP, zQ, zR, zS, zT, zU, zV, zW] at hc); (first | (exact absurd rfl hc) | (exact absurd trivial hc) | (exfalso; omega) | skip)) | ((conv => whnf); first | with_reducible refine And.intro ?_ ?_ | refine ifB_intro ?_ ?_ | refine xA (by omega) ?_ | ((refine xB ?_); intro kw hk1 hk2) | refine xC (by omega) ?_ | refine xD ?_ | refine xE (by omega) ?_ | refine xF (by omega) ?_ | refine xG ?_ | refine xH ?_ | refine xI (by omega) ?_ | refine xJ (by omega) ?_ | (with_reducible refine stopA ?_) | refine Exists.intro _ (And.intro (by rfl) ?_) | refine GOp.via (by rfl) ?_ | (with_reducible first | refine stopO ?_ | refine stopE ?_ | refine stopD ?_ | refine stopW ?_ | refine stopG ?_ | refine stopC ?_ | refine stopR ?_)))
      all_goals (first | omega | skip)
      · refine Done'.mk ?_
        show Frz _ (.tp [.sc (.slice none 0 0), booV false]) (quadR p)
        rw [quadR_none (by rw [hb, if_pos (by rw [hl] at hc; omega)])]
        exact Frz.tp (.cons Frz.nil0 (.cons (Frz.of (nameless_sc _)) .nil))
      · refine Done'.mk ?_
        show Frz ⟨[(0, .cells true [u8V (shrZ .u64 (N : Int) 16 % 256), u8V (shrZ .u64 (N : Int) 8 % 256), u8V ((N : Int) % 256)])], 1⟩ (.tp [.sl 0 0 1 (some 3) 1, booV true]) (quadR p)
        rw [quadR_some (by rw [hb, if_neg (by rw [hl] at hc; omega)]), hs1, hs2, hs3]
        exact Frz.tp (.cons (Frz.sl (vs := [bV (UInt8.ofNat (N / 65536)), bV (UInt8.ofNat (N / 256)), bV (UInt8.ofNat N)]) (o := 0) (n := 1) (z := 1) rfl (by simp) (nameless_map nameless_bV [UInt8.ofNat (N / 65536), UInt8.ofNat (N / 256), UInt8.ofNat N])) (.cons (Frz.of (nameless_sc _)) .nil))
    · subst h2
      have hl : bitZ .and .u64 (shlZ .u64 ((qn p : Nat) : Int) (8 * ((((3 : Nat) : Int)) - 1) + 8)) 4294967295 = ((qn p * 2 ^ 24 % 4294967296 : Nat) : Int) := low_and (N := qn p) (k := 24) (by omega) (by omega)
      have hb : quadP p = if qn p * 2 ^ 24 % 4294967296 ≠ 0 then none else some [UInt8.ofNat (qn p / 65536), UInt8.ofNat (qn p / 256)] := by
        rw [hR]; unfold quadH; rw [if_neg (by simp [hq4]), if_neg (by omega)]; rfl
      generalize qn p = N at *
      repeat' (first | with_reducible refine And.intro ?_ ?_ | ((with_reducible intro hc); (try simp only [zA, zB, zC, zD, zE, zF, zG, zH, zI, zJ, zK, zL, zM, zN, zO, zP, zQ, zR, zS, zT, zU, zV, zW] at hc); (first | (exact absurd rfl hc) | (exact absurd trivial hc) | (exfalso; omega) | skip)) | ((conv => whnf); first | with_reducible refine And.intro ?_ ?_ | refine ifB_intro ?_ ?_ | refine xA (by omega) ?_ | ((refine xB ?_); intro kw hk1 hk2) | refine xC (by omega) ?_ | refine xD ?_ | refine xE (by omega) ?_ | refine xF (by omega) ?_ | refine xG ?_ | refine xH ?_ | refine xI (by omega) ?_ | refine xJ (by omega) ?_ | (with_reducible refine stopA ?_) | refine Exists.intro _ (And.intro (by rfl) ?_) | refine GOp.via (by rfl) ?_ | (with_reducible first | refine stopO ?_ | refine stopE ?_ | refine stopD ?_ | refine stopW ?_ | refine stopG ?_ | refine stopC ?_ | refine stopR ?_)))
      all_goals (first | omega | skip)
      · refine Done'.mk ?_
        show Frz _ (.tp [.sc (.slice none 0 0), booV false]) (quadR p)
        rw [quadR_none (by rw [hb, if_pos (by rw [hl] at hc; omega)])]
        exact Frz.tp (.cons Frz.nil0 (.cons (Frz.of (nameless_sc _)) .nil))
      · refine Done'.mk ?_
        show Frz ⟨[(0, .cells true [u8V (shrZ .u64 (N : Int) 16 % 256), u8V (shrZ .u64 (N : Int) 8 % 256), u8V ((N : Int) % 256)])], 1⟩ (.tp [.sl 0 0 2 (some 3) 1, booV true]) (quadR p)
        rw [quadR_some (by rw [hb, if_neg (by rw [hl] at hc; omega)]), hs1, hs2, hs3]
        exact Frz.tp (.cons (Frz.sl (vs := [bV (UInt8.ofNat (N / 65536)), bV (UInt8.ofNat (N / 256)), bV (UInt8.ofNat N)]) (o := 0) (n := 2) (z := 1) rfl (by simp) (nameless_map nameless_bV [UInt8.ofNat (N / 65536), UInt8.ofNat (N / 256), UInt8.ofNat N])) (.cons (Frz.of (nameless_sc _)) .nil))
    · subst h2
      have hl : bitZ .and .u64 (shlZ .u64 ((qn p : Nat) : Int) (8 * ((((4 : Nat) : Int)) - 1) + 8)) 4294967295 = ((qn p * 2 ^ 32 % 4294967296 : Nat) : Int) := low_and (N := qn p) (k := 32) (by omega) (by omega)
      have hb : quadP p = if qn p * 2 ^ 32 % 4294967296 ≠ 0 then none else some [UInt8.ofNat (qn p / 65536), UInt8.ofNat (qn p / 256), UInt8.ofNat (qn p)] := by
        rw [hR]; unfold quadH; rw [if_neg (by simp [hq4]), if_neg (by omega)]; rfl
      generalize qn p = N at *
      repeat' (first | with_reducible refine And.intro ?_ ?_ | ((with_reducible intro hc); (try simp only [zA, zB, zC, zD, zE, zF, zG, zH, zI, zJ, zK, zL, zM, zN, zO, zP, zQ, zR, zS, zT, zU, zV, zW] at hc); (first | (exact absurd rfl hc) | (exact absurd trivial hc) | (exfalso; omega) | skip)) | ((conv => whnf); first | with_reducible refine And.intro ?_ ?_ | refine ifB_intro ?_ ?_ | refine xA (by omega) ?_ | ((refine xB ?_); intro kw hk1 hk2) | refine xC (by omega) ?_ | refine xD ?_ | refine xE (by omega) ?_ | refine xF (by omega) ?_ | refine xG ?_ | refine xH ?_ | refine xI (by omega) ?_ | refine xJ (by omega) ?_ | (with_reducible refine stopA ?_) | refine Exists.intro _ (And.intro (by rfl) ?_) | refine GOp.via (by rfl) ?_ | (with_reducible first | refine stopO ?_ | refine stopE ?_ | refine stopD ?_ | refine stopW ?_ | refine stopG ?_ | refine stopC ?_ | refine stopR ?_)))
      all_goals (first | omega | skip)
      · refine Done'.mk ?_
        show Frz ⟨[(0, .cells true [u8V (shrZ .u64 (N : Int) 16 % 256), u8V (shrZ .u64 (N : Int) 8 % 256), u8V ((N : Int) % 256)])], 1⟩ (.tp [.sl 0 0 3 (some 3) 1, booV true]) (quadR p)
        rw [quadR_some (by rw [hb, if_neg (by rw [hl] at hc; omega)]), hs1, hs2, hs3]
        exact Frz.tp (.cons (Frz.sl (vs := [bV (UInt8.ofNat (N / 65536)), bV (UInt8.ofNat (N / 256)), bV (UInt8.ofNat N)]) (o := 0) (n := 3) (z := 1) rfl (by simp) (nameless_map nameless_bV [UInt8.ofNat (N / 65536), UInt8.ofNat (N / 256), UInt8.ofNat N])) (.cons (Frz.of (nameless_sc _)) .nil))
end Go.Proofs.YtmmjgbdihgdekaaDoor

