/- The statement HostLong, walked. -/
import Derived.Test.YtnfmoclmfddajaaH5
namespace Go.Proofs.Ytnfmoclmfddajaa
open Go Go.RowKit
set_option linter.unusedSimpArgs false
set_option linter.unusedVariables false
set_option maxRecDepth 100000
set_option maxHeartbeats 4000000
/-- So many parts, each of so many bytes x. -/
def sepB : Nat → List UInt8
  | 0 => []
  | _ + 1 => [46]
def tHost (x : UInt8) (size : Nat) : Nat → List UInt8
  | 0 => []
  | i + 1 => tHost x size i ++ (sepB i ++ List.replicate size x)
theorem tHost_succ (x : UInt8) (size i : Nat) : tHost x size (i + 1) = tHost x size i ++ (sepB i ++ List.replicate size x) := rfl
theorem tHost_split {x : UInt8} {size : Nat} (hx : ¬ x = 46) : ∀ (i : Nat), splitB (tHost x size (i + 1)) 46 = List.replicate (i + 1) (List.replicate size x) := by
  have one : ∀ (n : Nat) (cur r : List UInt8), splitGo 46 (List.replicate n x ++ r) cur = splitGo 46 r (cur ++ List.replicate n x) := by
    intro n
    induction n with
    | zero => intro cur r; simp
    | succ n ih =>
      intro cur r
      rw [List.replicate_succ, List.cons_append, splitGo, if_neg hx, ih]
      simp
  have app : ∀ (l r cur : List UInt8), splitGo 46 (l ++ 46 :: r) cur = splitGo 46 l cur ++ splitGo 46 r [] := by
    intro l
    induction l with
    | nil => intro r cur; simp [splitGo]
    | cons c l ih =>
      intro r cur
      simp only [List.cons_append, splitGo]
      split
      · rw [ih]; simp
      · exact ih r _
  intro i
  induction i with
  | zero =>
    have := one size [] []
    simp only [List.append_nil] at this
    simp only [tHost, sepB, List.nil_append, splitB, this, splitGo]
    simp
  | succ i ih =>
    unfold splitB at ih ⊢
    rw [tHost_succ]
    simp only [sepB, List.cons_append, List.nil_append]
    rw [app, ih]
    have := one size [] []
    simp only [List.append_nil] at this
    rw [this, splitGo, List.replicate_succ' (n := i + 1)]
    simp
theorem tHost_low {x : UInt8} (hx : lowB x = x) (size : Nat) : ∀ i, (tHost x size i).map lowB = tHost x size i
  | 0 => rfl
  | i + 1 => by
    rw [tHost_succ, List.map_append, tHost_low hx size i, List.map_append, List.map_replicate, hx]
    cases i <;> rfl
theorem tHost_len (x : UInt8) (size : Nat) : ∀ i, (tHost x size (i + 1)).length = (i + 1) * size + i
  | 0 => by simp [tHost, sepB]
  | i + 1 => by
    rw [tHost_succ, List.length_append, tHost_len x size i]
    simp [sepB, Nat.add_mul]
    omega
theorem tHost_code {x : UInt8} (h1 : 97 ≤ x.toNat) (h2 : x.toNat ≤ 122) {size i : Nat} (hs : 1 ≤ size) : hCode (tHost x size (i + 1)) = if 253 < (tHost x size (i + 1)).length then 3 else if i + 1 ≤ 8 ∧ size ≤ 63 then 0 else 2 := by
  have hx : lowB x = x := by unfold lowB; rw [if_neg (by omega)]
  have h46 : ¬ x = 46 := fun e => by subst e; simp at h1
  have h45 : ¬ x = 45 := fun e => by subst e; simp at h1
  have hdg : dgB x = false := by rw [← dgB_eq]; exact decide_eq_false (by omega)
  have hnp : notPart x = false := by
    have := (low_facts x).1
    rw [hx] at this
    unfold notPart
    have q1 : Nat.blt x.toNat 97 = false := by
      cases hh : Nat.blt x.toNat 97
      · rfl
      · have := blt_iff.1 hh; omega
    have q2 : Nat.blt 122 x.toNat = false := by
      cases hh : Nat.blt 122 x.toNat
      · rfl
      · have := blt_iff.1 hh; omega
    rw [q1, q2]
    simp
  unfold hCode
  split
  · rfl
  · rw [tHost_low hx, tHost_split h46]
    have hlast : lastDig (List.replicate (i + 1) (List.replicate size x)) = false := by
      unfold lastDig
      rw [List.length_replicate, List.getElem?_replicate, if_pos (by omega)]
      simp only [List.getElem?_replicate]
      rw [if_pos (by omega)]
      exact hdg
    have hok : hOK (List.replicate size x) = decide (size ≤ 63) := by
      unfold hOK
      have hany : (List.replicate size x).any notPart = false := by
        rw [List.any_eq_false]
        intro y hy
        rw [(List.mem_replicate.1 hy).2, hnp]
        simp
      rw [hany, List.length_replicate, List.getElem?_replicate, if_pos (by omega), List.getElem?_replicate, if_pos (by omega)]
      have q1 : Nat.blt size 1 = false := by
        cases hh : Nat.blt size 1
        · rfl
        · have := blt_iff.1 hh; omega
      have q3 : (some x == some (45 : UInt8)) = false := by simpa using h45
      rw [q1, q3, Bool.eq_iff_iff]
      simp only [Bool.false_or, Bool.or_false, Bool.not_false, Bool.and_true, Bool.not_eq_true', decide_eq_true_eq]
      constructor
      · intro h
        rcases Nat.lt_or_ge 63 size with hh | hh
        · rw [blt_iff.2 hh] at h; cases h
        · exact hh
      · intro h
        cases hh : Nat.blt 63 size
        · rfl
        · have := blt_iff.1 hh; omega
    have hbad : hBad (List.replicate (i + 1) (List.replicate size x)) = !(decide (i + 1 ≤ 8 ∧ size ≤ 63)) := by
      unfold hBad
      have hall : (List.replicate (i + 1) (List.replicate size x)).all hOK = decide (size ≤ 63) := by
        rw [← hok, Bool.eq_iff_iff, List.all_eq_true]
        constructor
        · intro h; exact h _ (List.mem_replicate.2 ⟨by omega, rfl⟩)
        · intro h y hy; rw [(List.mem_replicate.1 hy).2]; exact h
      have q8 : Nat.blt 8 (i + 1) = !(decide (i + 1 ≤ 8)) := by
        rw [Bool.eq_iff_iff, blt_iff]
        simp only [Bool.not_eq_true', decide_eq_false_iff_not]
        omega
      rw [hlast, hall, List.length_replicate, q8, Bool.false_and, Bool.or_false, ← Bool.not_and, Bool.decide_and]
    rw [hbad]
    by_cases hc : i + 1 ≤ 8 ∧ size ≤ 63
    · rw [if_pos hc, if_neg (by simp [hc])]
    · rw [if_neg hc, if_pos (by rw [decide_eq_false hc]; rfl)]
end Go.Proofs.Ytnfmoclmfddajaa
