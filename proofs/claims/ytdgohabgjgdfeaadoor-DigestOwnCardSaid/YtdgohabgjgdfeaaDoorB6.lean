/- Sixty-four signs: reading, the plain law. No program in sight. -/
import Derived.Test.YtdgohabgjgdfeaaDoorB3
import Derived.Test.YtdgohabgjgdfeaaDoorB4
namespace Go.Proofs.YtdgohabgjgdfeaaDoor
open Go Go.RowKit
set_option linter.unusedSimpArgs false
set_option linter.unusedVariables false
set_option maxRecDepth 100000
theorem atZ_sgn' : ∀ n : Fin 64, atZ (sgn n.val) 64 = (n.val : Int) := by decide +kernel
theorem atZ_sgn {m : Nat} (h : m < 64) : atZ (sgn m) 64 = (m : Int) := atZ_sgn' ⟨m, h⟩
theorem atZ_pad : atZ 61 64 = -1 := by decide +kernel
theorem sgn_pad' : ∀ n : Fin 64, sgn n.val ≠ 61 := by decide +kernel
theorem sgn_pad {m : Nat} (h : m < 64) : sgn m ≠ 61 := sgn_pad' ⟨m, h⟩
theorem sgn_atZ (c : UInt8) : ∀ n, 0 ≤ atZ c n → sgn (atZ c n).toNat = c
  | 0, h => by simp [atZ] at h
  | n + 1, h => by
    rw [atZ_succ] at h ⊢
    by_cases e : sgn n = c
    · rw [if_pos e, Int.toNat_natCast]; exact e
    · rw [if_neg e] at h ⊢; exact sgn_atZ c n h
theorem cbits_sgn {m : Nat} (h : m < 64) : cbits (sgn m) = [UInt8.ofNat (m / 32 % 2), UInt8.ofNat (m / 16 % 2), UInt8.ofNat (m / 8 % 2), UInt8.ofNat (m / 4 % 2), UInt8.ofNat (m / 2 % 2), UInt8.ofNat (m % 2)] := by
  unfold cbits
  rw [atZ_sgn h, if_neg (by omega), Int.toNat_natCast]
theorem cbits_pad : cbits 61 = [] := by unfold cbits; rw [atZ_pad]; rfl
theorem v8_nat {x : UInt8} {a b c d e f g h : Nat} (ha : a < 2) (hb : b < 2) (hc : c < 2) (hd : d < 2) (he : e < 2) (hf : f < 2) (hg : g < 2) (hh : h < 2) (hx : x.toNat = 128 * a + 64 * b + 32 * c + 16 * d + 8 * e + 4 * f + 2 * g + h) :
    v8 [UInt8.ofNat a, UInt8.ofNat b, UInt8.ofNat c, UInt8.ofNat d, UInt8.ofNat e, UInt8.ofNat f, UInt8.ofNat g, UInt8.ofNat h] = x := by
  have step : ∀ (y : UInt8) (n b : Nat), y.toNat = n → n < 128 → b < 2 → (2 * y + UInt8.ofNat b).toNat = 2 * n + b := fun y n b h1 h2 h3 => by
    rw [UInt8.toNat_add, UInt8.toNat_mul, UInt8.toNat_ofNat', h1]
    have : (2 : UInt8).toNat = 2 := rfl
    rw [this]
    omega
  apply UInt8.toNat_inj.1
  have s0 := step 0 0 a rfl (by omega) ha
  have s1 := step _ _ b s0 (by omega) hb
  have s2 := step _ _ c s1 (by omega) hc
  have s3 := step _ _ d s2 (by omega) hd
  have s4 := step _ _ e s3 (by omega) he
  have s5 := step _ _ f s4 (by omega) hf
  have s6 := step _ _ g s5 (by omega) hg
  have s7 := step _ _ h s6 (by omega) hh
  show (2 * _ + UInt8.ofNat h).toNat = _
  rw [hx]
  refine s7.trans ?_
  omega
theorem m2 (n : Nat) : n % 2 < 2 := Nat.mod_lt _ (by omega)
theorem rbits_b64 : ∀ l : List UInt8, bytes8 (rbits (b64 l)) = l
  | a :: b :: c :: r => by
    have ha := a.toNat_lt; have hb := b.toNat_lt; have hc := c.toNat_lt
    have e : b64 (a :: b :: c :: r) = sgn (a.toNat / 4) :: sgn (a.toNat % 4 * 16 + b.toNat / 16) :: sgn (b.toNat % 16 * 4 + c.toNat / 64) :: sgn (c.toNat % 64) :: b64 r := by cases r <;> rfl
    rw [e]
    simp only [rbits]
    rw [cbits_sgn (by omega), cbits_sgn (by omega), cbits_sgn (by omega), cbits_sgn (by omega)]
    have h1 := v8_nat (x := a) (m2 (a.toNat / 4 / 32)) (m2 (a.toNat / 4 / 16)) (m2 (a.toNat / 4 / 8)) (m2 (a.toNat / 4 / 4)) (m2 (a.toNat / 4 / 2)) (m2 (a.toNat / 4)) (m2 ((a.toNat % 4 * 16 + b.toNat / 16) / 32)) (m2 ((a.toNat % 4 * 16 + b.toNat / 16) / 16)) (by omega)
    have h2 := v8_nat (x := b) (m2 ((a.toNat % 4 * 16 + b.toNat / 16) / 8)) (m2 ((a.toNat % 4 * 16 + b.toNat / 16) / 4)) (m2 ((a.toNat % 4 * 16 + b.toNat / 16) / 2)) (m2 (a.toNat % 4 * 16 + b.toNat / 16)) (m2 ((b.toNat % 16 * 4 + c.toNat / 64) / 32)) (m2 ((b.toNat % 16 * 4 + c.toNat / 64) / 16)) (m2 ((b.toNat % 16 * 4 + c.toNat / 64) / 8)) (m2 ((b.toNat % 16 * 4 + c.toNat / 64) / 4)) (by omega)
    have h3 := v8_nat (x := c) (m2 ((b.toNat % 16 * 4 + c.toNat / 64) / 2)) (m2 (b.toNat % 16 * 4 + c.toNat / 64)) (m2 (c.toNat % 64 / 32)) (m2 (c.toNat % 64 / 16)) (m2 (c.toNat % 64 / 8)) (m2 (c.toNat % 64 / 4)) (m2 (c.toNat % 64 / 2)) (m2 (c.toNat % 64)) (by omega)
    have hr := rbits_b64 r
    show v8 _ :: v8 _ :: v8 _ :: bytes8 (rbits (b64 r)) = _
    rw [hr, h1, h2, h3]
  | [a, b] => by
    have ha := a.toNat_lt; have hb := b.toNat_lt
    simp only [b64, rbits]
    rw [cbits_sgn (by omega), cbits_sgn (by omega), cbits_sgn (by omega), cbits_pad]
    have h1 := v8_nat (x := a) (m2 (a.toNat / 4 / 32)) (m2 (a.toNat / 4 / 16)) (m2 (a.toNat / 4 / 8)) (m2 (a.toNat / 4 / 4)) (m2 (a.toNat / 4 / 2)) (m2 (a.toNat / 4)) (m2 ((a.toNat % 4 * 16 + b.toNat / 16) / 32)) (m2 ((a.toNat % 4 * 16 + b.toNat / 16) / 16)) (by omega)
    have h2 := v8_nat (x := b) (m2 ((a.toNat % 4 * 16 + b.toNat / 16) / 8)) (m2 ((a.toNat % 4 * 16 + b.toNat / 16) / 4)) (m2 ((a.toNat % 4 * 16 + b.toNat / 16) / 2)) (m2 (a.toNat % 4 * 16 + b.toNat / 16)) (m2 (b.toNat % 16 * 4 / 32)) (m2 (b.toNat % 16 * 4 / 16)) (m2 (b.toNat % 16 * 4 / 8)) (m2 (b.toNat % 16 * 4 / 4)) (by omega)
    show v8 _ :: v8 _ :: bytes8 [_, _] = _
    rw [h1, h2]
    rfl
  | [a] => by
    have ha := a.toNat_lt
    simp only [b64, rbits]
    rw [cbits_sgn (by omega), cbits_sgn (by omega), cbits_pad]
    have h1 := v8_nat (x := a) (m2 (a.toNat / 4 / 32)) (m2 (a.toNat / 4 / 16)) (m2 (a.toNat / 4 / 8)) (m2 (a.toNat / 4 / 4)) (m2 (a.toNat / 4 / 2)) (m2 (a.toNat / 4)) (m2 (a.toNat % 4 * 16 / 32)) (m2 (a.toNat % 4 * 16 / 16)) (by omega)
    show v8 _ :: bytes8 [_, _, _, _] = _
    rw [h1]
    rfl
  | [] => rfl
theorem r64_b64 (l : List UInt8) : r64 (b64 l) = l := rbits_b64 l
/-- How much is left of the first so many, without the last 61s. -/
def keepN (l : List UInt8) : Nat → Nat
  | 0 => 0
  | n + 1 => if l[n]? = some 61 then keepN l n else n + 1
theorem keepN_le (l : List UInt8) : ∀ n, keepN l n ≤ n
  | 0 => Nat.le_refl _
  | n + 1 => by
    unfold keepN
    have := keepN_le l n
    split <;> omega
def sixN (c : UInt8) : Nat := (atZ c 64).toNat
def qn (p : List UInt8) : Nat := p.foldl (fun n c => n * 64 + sixN c) 0
def qok (h i : Nat) (c : UInt8) : Bool := if i < h then decide (0 ≤ atZ c 64) else c == 61
def qall (h : Nat) (p : List UInt8) : Nat → Bool
  | 0 => true
  | n + 1 => qall h p n && (match p[n]? with
    | some c => qok h n c
    | none => true)
/-- What quad makes of four signs, of which h are left without the last 61s. -/
def quadH (h : Nat) (p : List UInt8) : Option (List UInt8) :=
  if qall h p p.length = false then none
  else if h < 2 then none
  else if (qn p * 2 ^ (8 * (h - 1) + 8)) % 4294967296 ≠ 0 then none
  else some ([UInt8.ofNat (qn p / 65536), UInt8.ofNat (qn p / 256), UInt8.ofNat (qn p)].take (h - 1))
def quadP (p : List UInt8) : Option (List UInt8) := quadH (keepN p p.length) p
theorem ofNat_mod (n : Nat) : (UInt8.ofNat n).toNat = n % 256 := UInt8.toNat_ofNat'
theorem sixN_lt (c : UInt8) : sixN c < 64 := by
  unfold sixN
  have := atZ_lt c 64
  omega
theorem sgn_six {c : UInt8} (h : 0 ≤ atZ c 64) : c = sgn (sixN c) := (sgn_atZ c 64 h).symm
theorem keep4 (a b c d : UInt8) : keepN [a, b, c, d] [a, b, c, d].length = if d = 61 then (if c = 61 then (if b = 61 then (if a = 61 then 0 else 1) else 2) else 3) else 4 := by
  simp only [List.length_cons, List.length_nil, keepN]
  simp
theorem qn4 (a b c d : UInt8) : qn [a, b, c, d] = ((sixN a * 64 + sixN b) * 64 + sixN c) * 64 + sixN d := by simp [qn]
theorem quadP_W {a b c d : UInt8} {bs : List UInt8} (h : quadP [a, b, c, d] = some bs) : quadW bs = [a, b, c, d] ∧ 1 ≤ bs.length ∧ bs.length ≤ 3 := by
  unfold quadP at h
  have hk := keep4 a b c d
  generalize keepN [a, b, c, d] [a, b, c, d].length = k at h hk
  unfold quadH at h
  rw [qn4] at h
  have la := sixN_lt a; have lb := sixN_lt b; have lc := sixN_lt c; have ld := sixN_lt d
  have q0 : sixN 61 = 0 := by decide +kernel
  split at h
  · cases h
  rename_i hall
  simp only [Bool.not_eq_false] at hall
  split at h
  · cases h
  rename_i h2
  split at h
  · cases h
  rename_i h3
  injection h with h
  by_cases hd : d = 61
  · by_cases hc : c = 61
    · by_cases hb : b = 61
      · rw [if_pos hd, if_pos hc, if_pos hb] at hk
        exfalso
        split at hk <;> omega
      · rw [if_pos hd, if_pos hc, if_neg hb] at hk
        subst hd hc hk
        simp [qall, qok] at hall
        have ea := sgn_six hall.1
        have eb := sgn_six hall.2
        rw [q0] at h h3
        simp at h h3
        subst h
        refine ⟨?_, by simp, by simp⟩
        simp only [quadW, ofNat_mod]
        have e1 : ((sixN a * 64 + sixN b) * 64 * 64 / 65536 % 256) / 4 = sixN a := by omega
        have e2 : ((sixN a * 64 + sixN b) * 64 * 64 / 65536 % 256) % 4 * 16 = sixN b := by omega
        rw [e1, e2, ← ea, ← eb]
    · rw [if_pos hd, if_neg hc] at hk
      subst hd hk
      simp [qall, qok] at hall
      have ea := sgn_six hall.1.1
      have eb := sgn_six hall.1.2
      have ec := sgn_six hall.2
      rw [q0] at h h3
      simp at h h3
      subst h
      refine ⟨?_, by simp, by simp⟩
      simp only [quadW, ofNat_mod]
      have e1 : (((sixN a * 64 + sixN b) * 64 + sixN c) * 64 / 65536 % 256) / 4 = sixN a := by omega
      have e2 : (((sixN a * 64 + sixN b) * 64 + sixN c) * 64 / 65536 % 256) % 4 * 16 + (((sixN a * 64 + sixN b) * 64 + sixN c) * 64 / 256 % 256) / 16 = sixN b := by omega
      have e3 : (((sixN a * 64 + sixN b) * 64 + sixN c) * 64 / 256 % 256) % 16 * 4 = sixN c := by omega
      rw [e1, e2, e3, ← ea, ← eb, ← ec]
  · rw [if_neg hd] at hk
    subst hk
    simp [qall, qok] at hall
    have ea := sgn_six hall.1.1.1
    have eb := sgn_six hall.1.1.2
    have ec := sgn_six hall.1.2
    have ed := sgn_six hall.2
    generalize hN : ((sixN a * 64 + sixN b) * 64 + sixN c) * 64 + sixN d = N at h h3
    simp at h
    subst h
    refine ⟨?_, by simp, by simp⟩
    simp only [quadW, ofNat_mod]
    rw [← hN]
    have e1 : ((((sixN a * 64 + sixN b) * 64 + sixN c) * 64 + sixN d) / 65536 % 256) / 4 = sixN a := by omega
    have e2 : ((((sixN a * 64 + sixN b) * 64 + sixN c) * 64 + sixN d) / 65536 % 256) % 4 * 16 + ((((sixN a * 64 + sixN b) * 64 + sixN c) * 64 + sixN d) / 256 % 256) / 16 = sixN b := by omega
    have e3 : ((((sixN a * 64 + sixN b) * 64 + sixN c) * 64 + sixN d) / 256 % 256) % 16 * 4 + ((((sixN a * 64 + sixN b) * 64 + sixN c) * 64 + sixN d) % 256) / 64 = sixN c := by omega
    have e4 : ((((sixN a * 64 + sixN b) * 64 + sixN c) * 64 + sixN d) % 256) % 64 = sixN d := by omega
    rw [e1, e2, e3, e4, ← ea, ← eb, ← ec, ← ed]
theorem six_sgn {m : Nat} (h : m < 64) : sixN (sgn m) = m := by unfold sixN; rw [atZ_sgn h]; rfl
theorem ge_sgn {m : Nat} (h : m < 64) : decide (0 ≤ atZ (sgn m) 64) = true := by rw [atZ_sgn h]; exact decide_eq_true (by omega)
theorem quadW_P : ∀ bs : List UInt8, 1 ≤ bs.length → bs.length ≤ 3 → quadP (quadW bs) = some bs
  | [], h, _ => by simp at h
  | [x], _, _ => by
    have hx := x.toNat_lt
    have l1 : x.toNat / 4 < 64 := by omega
    have l2 : x.toNat % 4 * 16 < 64 := by omega
    simp only [quadW, quadP]
    rw [keep4, if_pos rfl, if_pos rfl, if_neg (sgn_pad l2)]
    simp only [quadH]
    rw [qn4, six_sgn l1, six_sgn l2, show sixN 61 = 0 by decide +kernel]
    rw [if_neg (by simp [qall, qok, atZ_sgn l1, atZ_sgn l2]; omega), if_neg (by omega), if_neg (by simp; omega)]
    simp
    apply UInt8.toNat_inj.1
    rw [ofNat_mod]
    omega
  | [x, y], _, _ => by
    have hx := x.toNat_lt; have hy := y.toNat_lt
    have l1 : x.toNat / 4 < 64 := by omega
    have l2 : x.toNat % 4 * 16 + y.toNat / 16 < 64 := by omega
    have l3 : y.toNat % 16 * 4 < 64 := by omega
    simp only [quadW, quadP]
    rw [keep4, if_pos rfl, if_neg (sgn_pad l3)]
    simp only [quadH]
    rw [qn4, six_sgn l1, six_sgn l2, six_sgn l3, show sixN 61 = 0 by decide +kernel]
    rw [if_neg (by simp [qall, qok, atZ_sgn l1, atZ_sgn l2, atZ_sgn l3]; omega), if_neg (by omega), if_neg (by simp; omega)]
    simp
    constructor <;> (apply UInt8.toNat_inj.1; rw [ofNat_mod]; omega)
  | [x, y, z], _, _ => by
    have hx := x.toNat_lt; have hy := y.toNat_lt; have hz := z.toNat_lt
    have l1 : x.toNat / 4 < 64 := by omega
    have l2 : x.toNat % 4 * 16 + y.toNat / 16 < 64 := by omega
    have l3 : y.toNat % 16 * 4 + z.toNat / 64 < 64 := by omega
    have l4 : z.toNat % 64 < 64 := by omega
    simp only [quadW, quadP]
    rw [keep4, if_neg (sgn_pad l4)]
    simp only [quadH]
    rw [qn4, six_sgn l1, six_sgn l2, six_sgn l3, six_sgn l4]
    rw [if_neg (by simp [qall, qok, atZ_sgn l1, atZ_sgn l2, atZ_sgn l3, atZ_sgn l4]; omega), if_neg (by omega), if_neg (by simp)]
    generalize hN : ((x.toNat / 4 * 64 + (x.toNat % 4 * 16 + y.toNat / 16)) * 64 + (y.toNat % 16 * 4 + z.toNat / 64)) * 64 + z.toNat % 64 = N
    simp
    refine ⟨?_, ?_, ?_⟩ <;> (apply UInt8.toNat_inj.1; rw [ofNat_mod]; omega)
  | _ :: _ :: _ :: _ :: _, _, h => by simp at h
/-- What Read makes of the rest of a text, behind what has been read. -/
def readL (tl : Nat) : List UInt8 → List UInt8 → Option (List UInt8)
  | out, a :: b :: c :: d :: r => match quadP [a, b, c, d] with
    | none => none
    | some bs => if bs.length < 3 ∧ out.length / 3 * 4 + 4 < tl then none else readL tl (out ++ bs) r
  | out, _ => some out
def readP (t : List UInt8) : Option (List UInt8) := if t.length % 4 ≠ 0 then none else readL t.length [] t
theorem quadW_len : ∀ l : List UInt8, 1 ≤ l.length → l.length ≤ 3 → (quadW l).length = 4
  | [], h, _ => by simp at h
  | [_], _, _ => rfl
  | [_, _], _, _ => rfl
  | [_, _, _], _, _ => rfl
  | _ :: _ :: _ :: _ :: _, _, h => by simp at h
theorem b64_len4 : ∀ l : List UInt8, (b64 l).length % 4 = 0
  | a :: b :: c :: r => by
    have e : b64 (a :: b :: c :: r) = sgn (a.toNat / 4) :: sgn (a.toNat % 4 * 16 + b.toNat / 16) :: sgn (b.toNat % 16 * 4 + c.toNat / 64) :: sgn (c.toNat % 64) :: b64 r := by cases r <;> rfl
    have := b64_len4 r
    rw [e]
    simp only [List.length_cons]
    omega
  | [a, b] => by simp [b64]
  | [a] => by simp [b64]
  | [] => by simp [b64]
theorem b64_nil {l : List UInt8} (h : b64 l = []) : l = [] := by
  match l with
  | [] => rfl
  | [_] => simp [b64] at h
  | [_, _] => simp [b64] at h
  | _ :: _ :: _ :: r => cases r <;> simp [b64] at h
theorem readL_iff (tl : Nat) : ∀ (n : Nat) (r out x : List UInt8), r.length = 4 * n → out.length % 3 = 0 → out.length / 3 * 4 + r.length = tl → (readL tl out r = some x ↔ ∃ y, x = out ++ y ∧ b64 y = r)
  | 0, r, out, x, hr, ho, ht => by
    obtain rfl : r = [] := List.eq_nil_of_length_eq_zero (by omega)
    simp only [readL]
    constructor
    · intro h; injection h with h; exact ⟨[], by simp [h], rfl⟩
    · rintro ⟨y, rfl, h⟩
      rw [b64_nil h, List.append_nil]
  | n + 1, r, out, x, hr, ho, ht => by
    match r, hr with
    | a :: b :: c :: d :: r, hr =>
      simp only [List.length_cons] at hr ht
      rw [readL]
      constructor
      · intro h
        split at h
        · cases h
        rename_i bs hq
        obtain ⟨q1, q2, q3⟩ := quadP_W hq
        split at h
        · cases h
        rename_i hlt
        by_cases hb : bs.length = 3
        · have ho2 : (out ++ bs).length % 3 = 0 := by rw [List.length_append]; omega
          have ht2 : (out ++ bs).length / 3 * 4 + r.length = tl := by rw [List.length_append]; omega
          obtain ⟨y, rfl, hy⟩ := (readL_iff tl n r (out ++ bs) x (by omega) ho2 ht2).1 h
          refine ⟨bs ++ y, by simp, ?_⟩
          rw [b64_chunk, List.take_left' hb, List.drop_left' hb, q1, hy]
          rfl
        · have hr0 : r = [] := List.eq_nil_of_length_eq_zero (by omega)
          subst hr0
          simp only [readL] at h
          injection h with h
          refine ⟨bs, h.symm, ?_⟩
          rw [b64_chunk, List.take_of_length_le (by omega), List.drop_eq_nil_of_le (by omega), q1]
          rfl
      · rintro ⟨y, rfl, hy⟩
        have hy0 : y ≠ [] := fun e => by subst e; cases hy
        have hy1 : 1 ≤ (y.take 3).length := by
          cases y with
          | nil => exact absurd rfl hy0
          | cons => simp
        have hy2 : (y.take 3).length ≤ 3 := by simp; omega
        have hl := quadW_len _ hy1 hy2
        rw [b64_chunk] at hy
        have e1 : quadW (y.take 3) = [a, b, c, d] := by
          have := congrArg (fun l => l.take 4) hy
          simpa [List.take_left' hl] using this
        have e2 : b64 (y.drop 3) = r := by
          have := congrArg (fun l => l.drop 4) hy
          simpa [List.drop_left' hl] using this
        have hq := quadW_P _ hy1 hy2
        rw [e1] at hq
        rw [hq]
        simp only
        by_cases hb : (y.take 3).length = 3
        · rw [if_neg (by omega)]
          refine (readL_iff tl n r (out ++ y.take 3) (out ++ y) (by omega) (by rw [List.length_append]; omega) (by rw [List.length_append]; omega)).2 ⟨y.drop 3, ?_, e2⟩
          rw [List.append_assoc, List.take_append_drop]
        · have hd : y.drop 3 = [] := List.drop_eq_nil_of_le (by simp at hb; omega)
          rw [hd] at e2
          have hr0 : r = [] := by rw [← e2]; rfl
          subst hr0
          simp only [List.length_nil] at ht
          rw [if_neg (by omega)]
          simp only [readL]
          rw [List.take_of_length_le (by simp at hb; omega)]
    | [], hr => simp at hr
    | [_], hr => simp at hr; omega
    | [_, _], hr => simp at hr; omega
    | [_, _, _], hr => simp at hr; omega
theorem readP_iff (t x : List UInt8) : readP t = some x ↔ b64 x = t := by
  unfold readP
  constructor
  · intro h
    split at h
    · cases h
    rename_i h4
    obtain ⟨y, rfl, hy⟩ := (readL_iff t.length (t.length / 4) t [] x (by omega) rfl (by simp)).1 h
    exact hy
  · intro h
    have := b64_len4 x
    rw [h] at this
    rw [if_neg (by omega)]
    exact (readL_iff t.length (t.length / 4) t [] x (by omega) rfl (by simp)).2 ⟨x, rfl, h⟩
/-- What the program reads is what the document reads. -/
theorem readP_r64 (t : List UInt8) : readP t = if b64 (r64 t) = t then some (r64 t) else none := by
  split
  · rename_i h
    exact (readP_iff t _).2 h
  · rename_i h
    cases hr : readP t with
    | none => rfl
    | some x =>
      have hx := (readP_iff t x).1 hr
      exact absurd (by rw [← hx, r64_b64]) h
theorem readP_b64 (l : List UInt8) : readP (b64 l) = some l := (readP_iff _ _).2 rfl
end Go.Proofs.YtdgohabgjgdfeaaDoor
