import Derived.Test.YtmmjgbdihgdekaaDoorI8
import Derived.Test.YtmmjgbdihgdekaaDoorI9
import Derived.Test.YtmmjgbdihgdekaaDoorI1
import Derived.Test.YtmmjgbdihgdekaaDoorI6
import Derived.Test.YtmmjgbdihgdekaaDoorI7
import Derived.Test.YtmmjgbdihgdekaaDoorI2
import Derived.Lib.Split
import Derived.WalkSmall
/- The names of a form, and the document's, walked. -/
namespace Go.Proofs.YtmmjgbdihgdekaaDoor
open Go Go.RowKit
set_option linter.unusedSimpArgs false
set_option linter.unusedVariables false
set_option maxRecDepth 100000
set_option maxHeartbeats 16000000
theorem take_nextS {l : List (List UInt8)} {j : Nat} {x : List UInt8} (h : l[j]? = some x) : l.take (j + 1) = l.take j ++ [x] := by
  obtain ⟨hj, e⟩ := List.getElem?_eq_some_iff.1 h
  rw [List.take_succ_eq_append_getElem hj, e]
end Go.Proofs.YtmmjgbdihgdekaaDoor

/- The law PairsParses, walked. -/
namespace Go.Proofs.YtmmjgbdihgdekaaDoor
open Go Go.RowKit
set_option linter.unusedSimpArgs false
set_option linter.unusedVariables false
set_option maxRecDepth 100000
set_option maxHeartbeats 16000000
/-- Pairs that are short, and few. -/
def ShortP (n : Nat) (l : List PF) : Prop := ∀ f ∈ l, f.1.length ≤ n ∧ f.2.length ≤ n
theorem dcB_small : ∀ (n : Nat) (l : List UInt8), l.length ≤ n → ∀ x, itB l = some x → (x.map fixI).length ≤ l.length := fun n l hn x h => by
  rw [List.length_map]
  exact itB_len n l hn x h
theorem plainB_small {l x : List UInt8} (h : plainB l = some x) : x.length ≤ l.length := by
  rw [← plain_items] at h
  cases hi : itB l with
  | none => rw [hi] at h; cases h
  | some y =>
    rw [hi] at h
    injection h with h
    subst h
    exact dcB_small l.length l (Nat.le_refl _) y hi
theorem pfold_short {n : Nat} : ∀ (ps : List (List UInt8)) (acc : List PF), (∀ p ∈ ps, p.length ≤ n) → acc.length ≤ 64 → ShortP n acc → (pfold ps acc).pairs.length ≤ 64 ∧ ShortP n (pfold ps acc).pairs
  | [], acc, _, h1, h2 => ⟨h1, h2⟩
  | p :: r, acc, hp, h1, h2 => by
    have hr := fun q hq => hp q (List.mem_cons_of_mem _ hq)
    have hpl := hp p List.mem_cons_self
    have he : ∀ e, (PR.err e).pairs.length ≤ 64 ∧ ShortP n (PR.err e).pairs := fun e => ⟨Nat.zero_le _, fun f hf => by cases hf⟩
    rw [pfold_cons]
    by_cases h0 : p = []
    · rw [if_pos h0]
      exact pfold_short r acc hr h1 h2
    · rw [if_neg h0]
      by_cases h64 : 64 ≤ acc.length
      · rw [if_pos h64]
        exact he 3
      · rw [if_neg h64]
        have hcl := cutB_len p 61
        cases e1 : plainB (cutB p 61).1 with
        | none => exact he 2
        | some a =>
          cases e2 : plainB (cutB p 61).2.1 with
          | none => exact he 2
          | some b =>
            have hs1 := plainB_small e1
            have hs2 := plainB_small e2
            refine pfold_short r (acc ++ [(a, b)]) hr (by simp only [List.length_append, List.length_cons, List.length_nil]; omega) ?_
            intro f hf
            rcases List.mem_append.1 hf with hf | hf
            · exact h2 f hf
            · rw [List.mem_singleton.1 hf]
              exact ⟨by simp only; omega, by simp only; omega⟩
theorem pparse_short (t : List UInt8) : (pparse t).pairs.length ≤ 64 ∧ ShortP t.length (pparse t).pairs := by
  unfold pparse
  split
  · exact ⟨Nat.zero_le _, fun f hf => by cases hf⟩
  · obtain ⟨_, h2⟩ := splitGo_small 38 t []
    exact pfold_short _ [] (fun p hp => by have := h2 p hp; simpa using this) (Nat.zero_le _) (fun f hf => by cases hf)
theorem pres_eq (r : PR) : ∃ e : Nat, presV r = .tp [formV r.pairs, iV e] ∧ rprV r = .tp [.ro r.pairs.length (rowsT r.pairs), iV e] := by
  cases r with
  | err e => exact ⟨e, rfl, rfl⟩
  | ok l => exact ⟨0, rfl, rfl⟩
end Go.Proofs.YtmmjgbdihgdekaaDoor

/- Paths: what the program and the document make of a name, in plain words. -/
namespace Go.Proofs.YtmmjgbdihgdekaaDoor
open Go Go.RowKit
set_option linter.unusedSimpArgs false
set_option linter.unusedVariables false
/-- Parts that may be a path's: all but the last are tokens, the last one may be empty. -/
def okP : List (List UInt8) → Bool
  | [] => false
  | [p] => tokenB p || p == []
  | p :: q :: r => tokenB p && okP (q :: r)
def joinP : List (List UInt8) → List UInt8
  | [] => []
  | [p] => p
  | p :: q :: r => p ++ 93 :: 91 :: joinP (q :: r)
theorem tok_no : tokB 91 = false ∧ tokB 93 = false := by decide +kernel
theorem token_no {p : List UInt8} (h : tokenB p = true) : (91 : UInt8) ∉ p ∧ (93 : UInt8) ∉ p := by
  unfold tokenB at h
  simp only [Bool.and_eq_true, List.all_eq_true] at h
  exact ⟨fun e => Bool.false_ne_true (tok_no.1.symm.trans (h.1 _ e)), fun e => Bool.false_ne_true (tok_no.2.symm.trans (h.1 _ e))⟩
theorem okP_no : ∀ {ps : List (List UInt8)}, okP ps = true → ∀ p ∈ ps, (91 : UInt8) ∉ p ∧ (93 : UInt8) ∉ p
  | [], h => by simp [okP] at h
  | [p], h => by
    simp only [okP, Bool.or_eq_true, beq_iff_eq] at h
    intro q hq
    rw [List.mem_singleton.1 hq]
    rcases h with h | h
    · exact token_no h
    · subst h; simp
  | p :: q :: r, h => by
    simp only [okP, Bool.and_eq_true] at h
    intro x hx
    rcases List.mem_cons.1 hx with rfl | hx
    · exact token_no h.1
    · exact okP_no h.2 x hx
/-- The document's road: parts in brackets, one behind the other; none: it is no path. -/
def docP : Nat → List UInt8 → Option (List (List UInt8))
  | _, [] => some []
  | 0, _ => none
  | n + 1, c :: s => if c ≠ 91 then none else if (cutB s 93).2.2 = false then none else if tokenB (cutB s 93).1 || ((cutB s 93).1 == [] && (cutB s 93).2.1 == []) then (docP n (cutB s 93).2.1).map ((cutB s 93).1 :: ·) else none
theorem cutB_hit {p s : List UInt8} {b : UInt8} (h : b ∉ p) : cutB (p ++ b :: s) b = (p, s, true) := by
  unfold cutB
  have h1 : (p ++ b :: s).contains b = true := by simp
  have h2 : (p ++ b :: s).idxOf b = p.length := by
    rw [List.idxOf_append, if_neg h]
    simp
  rw [if_pos h1, h2]
  simp
theorem cutB_back {s : List UInt8} {b : UInt8} (h : (cutB s b).2.2 = true) : s = (cutB s b).1 ++ b :: (cutB s b).2.1 ∧ b ∉ (cutB s b).1 := by
  unfold cutB at h ⊢
  split at h
  · rename_i hc
    have hm : b ∈ s := by simpa using hc
    have hi := List.idxOf_lt_length_of_mem hm
    have he : s[s.idxOf b] = b := List.getElem_idxOf hi
    rw [if_pos hc]
    refine ⟨?_, ?_⟩
    · simp only
      conv => lhs; rw [← List.take_append_drop (s.idxOf b) s, List.drop_eq_getElem_cons hi, he]
    · simp only
      intro hb
      obtain ⟨j, hj, e⟩ := List.mem_iff_getElem.1 hb
      rw [List.getElem_take] at e
      simp only [List.length_take] at hj
      have hn := List.not_of_lt_findIdx (p := (· == b)) (xs := s) (i := j) (by have : s.findIdx (· == b) = s.idxOf b := rfl; omega)
      simp [e] at hn
  · cases h
theorem docP_join : ∀ (ps : List (List UInt8)) (n : Nat), (joinP ps).length + 2 ≤ n → okP ps = true → docP n (91 :: (joinP ps ++ [93])) = some ps
  | [], n, _, h => by simp [okP] at h
  | [p], n + 1, hn, h => by
    have hno := (okP_no h p (by simp)).2
    have e : joinP [p] ++ [93] = p ++ 93 :: [] := rfl
    rw [docP, if_neg (by simp), e, cutB_hit hno]
    simp only [okP] at h
    have h2 : (tokenB p || (p == [] && ([] : List UInt8) == [])) = true := by simpa using h
    rw [if_neg (by simp), if_pos h2]
    cases n <;> rfl
  | p :: q :: r, n + 1, hn, h => by
    have hno := (okP_no h p (by simp)).2
    simp only [okP, Bool.and_eq_true] at h
    have e : joinP (p :: q :: r) ++ [93] = p ++ 93 :: (91 :: (joinP (q :: r) ++ [93])) := by
      show (p ++ 93 :: 91 :: joinP (q :: r)) ++ [93] = _
      simp
    have hlen : (joinP (p :: q :: r)).length = p.length + 2 + (joinP (q :: r)).length := by
      show (p ++ 93 :: 91 :: joinP (q :: r)).length = _
      simp
      omega
    have ih := docP_join (q :: r) n (by omega) h.2
    rw [docP, if_neg (by simp), e, cutB_hit hno]
    simp only
    rw [if_neg (by simp), if_pos (by rw [h.1]; rfl), ih]
    rfl
theorem docP_back : ∀ (n : Nat) (t : List UInt8) (ps : List (List UInt8)), docP n t = some ps → t = [] ∧ ps = [] ∨ t = 91 :: (joinP ps ++ [93]) ∧ okP ps = true
  | n, [], ps, h => by
    have h : some [] = some ps := by cases n <;> exact h
    injection h with h
    exact .inl ⟨rfl, h.symm⟩
  | 0, c :: s, ps, h => by cases h
  | n + 1, c :: s, ps, h => by
    rw [docP] at h
    split at h
    · cases h
    · rename_i hc
      simp only [ne_eq, Decidable.not_not] at hc
      subst hc
      split at h
      · cases h
      · rename_i hf
        simp only [Bool.not_eq_false] at hf
        obtain ⟨e1, e2⟩ := cutB_back hf
        split at h
        · rename_i hok
          generalize (cutB s 93).1 = p at *
          generalize (cutB s 93).2.1 = r at *
          cases hd : docP n r with
          | none => rw [hd] at h; cases h
          | some qs =>
            rw [hd] at h
            injection h with h
            subst h
            right
            rcases docP_back n r qs hd with ⟨hr, hq⟩ | ⟨hr, hq⟩
            · subst hr hq
              refine ⟨by rw [e1]; rfl, ?_⟩
              simpa [okP] using hok
            · have hr0 : (r == []) = false := by subst hr; rfl
              rw [hr0, Bool.and_false, Bool.or_false] at hok
              match qs, hq, hr with
              | [], hq, _ => simp [okP] at hq
              | q :: qs, hq, hr =>
                refine ⟨?_, by simp only [okP, Bool.and_eq_true]; exact ⟨hok, hq⟩⟩
                rw [e1, hr]
                show 91 :: (p ++ 93 :: 91 :: (joinP (q :: qs) ++ [93])) = 91 :: ((p ++ 93 :: 91 :: joinP (q :: qs)) ++ [93])
                simp
        · cases h
/-- What a name is a path of. -/
def pathB (t : List UInt8) : List (List UInt8) :=
  if (cutB t 91).2.2 = false ∨ tokenB (cutB t 91).1 = false then [t] else match docP t.length (91 :: (cutB t 91).2.1) with
    | none => [t]
    | some ps => (cutB t 91).1 :: ps
/-- The program's road: the parts between the pairs of brackets. -/
def splP (s : List UInt8) : List (List UInt8) := Lib.split s [93, 91]
theorem index_nil (s : List UInt8) (h : (93 : UInt8) ∉ s) : Lib.index s [93, 91] = -1 := by
  induction s with
  | nil => rfl
  | cons c r ih =>
    have h1 : c ≠ 93 := fun e => h (by simp [e])
    have := ih (fun e => h (by simp [e]))
    rw [Lib.index, this]
    simp [List.isPrefixOf, Ne.symm h1]
theorem index_hit (p s : List UInt8) (h : (93 : UInt8) ∉ p) : Lib.index (p ++ 93 :: 91 :: s) [93, 91] = (p.length : Nat) := by
  induction p with
  | nil => rw [List.nil_append, Lib.index]; simp [List.isPrefixOf]
  | cons c r ih =>
    have h1 : c ≠ 93 := fun e => h (by simp [e])
    have := ih (fun e => h (by simp [e]))
    rw [List.cons_append, Lib.index, this]
    simp [List.isPrefixOf, Ne.symm h1]
    try omega
theorem splP_join : ∀ ps : List (List UInt8), ps ≠ [] → (∀ p ∈ ps, (91 : UInt8) ∉ p ∧ (93 : UInt8) ∉ p) → splP (joinP ps) = ps
  | [], h, _ => absurd rfl h
  | [p], _, h => by
    have hi := index_nil p (h p (by simp)).2
    show Lib.splitK _ 0 (Lib.count p [93, 91]) p = _
    rw [Lib.count_miss hi]
    rfl
  | p :: q :: r, _, h => by
    have hi := index_hit p (joinP (q :: r)) (h p (by simp)).2
    have ih := splP_join (q :: r) (by simp) (fun x hx => h x (List.mem_cons_of_mem _ hx))
    show Lib.splitK _ 0 (Lib.count (p ++ 93 :: 91 :: joinP (q :: r)) [93, 91]) (p ++ 93 :: 91 :: joinP (q :: r)) = _
    have e : (p ++ 93 :: 91 :: joinP (q :: r)).drop (p.length + ([93, 91] : List UInt8).length) = joinP (q :: r) := by
      rw [List.drop_append]
      simp
    rw [Lib.count_hit (by simp) hi, e, Nat.add_comm, Lib.splitK]
    rw [if_neg (by rw [hi]; simp <;> omega), hi, Int.toNat_natCast, e, Nat.add_zero, List.take_left]
    congr 1
theorem join_splK : ∀ (k : Nat) (s : List UInt8), k = Lib.count s [93, 91] → joinP (Lib.splitK [93, 91] 0 k s) = s ∧ Lib.splitK [93, 91] 0 k s ≠ []
  | 0, s, _ => ⟨rfl, by simp [Lib.splitK]⟩
  | k + 1, s, hk => by
    rcases Int.lt_or_le (Lib.index s [93, 91]) 0 with hi | hi
    · have hge := Lib.index_ge s [93, 91]
      have hi : Lib.index s [93, 91] = -1 := by omega
      rw [Lib.count_miss hi] at hk
      omega
    · obtain ⟨i, hi⟩ : ∃ i : Nat, Lib.index s [93, 91] = i := ⟨(Lib.index s [93, 91]).toNat, by omega⟩
      have hc := Lib.count_hit (by simp) hi
      obtain ⟨g1, g2⟩ := join_splK k (s.drop (i + 2)) (by have : ([93, 91] : List UInt8).length = 2 := rfl; rw [this] at hc; omega)
      rw [Lib.splitK, if_neg (by rw [hi]; simp <;> omega), hi, Int.toNat_natCast]
      have hat : s = s.take i ++ 93 :: 91 :: s.drop (i + 2) := index_at s i hi
      refine ⟨?_, by simp⟩
      show joinP (s.take (i + 0) :: Lib.splitK [93, 91] 0 k (s.drop (i + 2))) = s
      generalize hg : Lib.splitK [93, 91] 0 k (s.drop (i + 2)) = l at *
      match l, g2 with
      | q :: r, _ =>
        show s.take (i + 0) ++ 93 :: 91 :: joinP (q :: r) = s
        rw [g1, Nat.add_zero, ← hat]
where
  index_at : ∀ (s : List UInt8) (i : Nat), Lib.index s [93, 91] = i → s = s.take i ++ 93 :: 91 :: s.drop (i + 2) := by
    intro s
    induction s with
    | nil => intro i h; simp [Lib.index, List.isPrefixOf] at h
    | cons c r ih =>
      intro i h
      rw [Lib.index] at h
      by_cases hp : ([93, 91] : List UInt8).isPrefixOf (c :: r) = true
      · rw [if_pos hp] at h
        have hi : i = 0 := by omega
        subst hi
        obtain ⟨u, hu⟩ := List.isPrefixOf_iff_prefix.1 hp
        rw [← hu]
        simp
      · rw [if_neg hp] at h
        by_cases hm : Lib.index r [93, 91] = -1
        · rw [hm] at h
          simp at h
          try omega
        · have hge := Lib.index_ge r [93, 91]
          rw [if_neg (by simpa using hm)] at h
          have := ih (i - 1) (by omega)
          obtain ⟨j, rfl⟩ : ∃ j, i = j + 1 := ⟨i - 1, by omega⟩
          simp only [Nat.add_sub_cancel] at this
          show c :: r = (c :: r.take j) ++ 93 :: 91 :: r.drop (j + 2)
          rw [List.cons_append, ← this]
/-- What the program makes of a name. -/
def pathP (t : List UInt8) : List (List UInt8) :=
  if (cutB t 91).2.2 = true ∧ (cutB t 91).2.1.getLast? = some 93 ∧ tokenB (cutB t 91).1 = true ∧ okP (splP (cutB t 91).2.1.dropLast) = true then (cutB t 91).1 :: splP (cutB t 91).2.1.dropLast else [t]
theorem path_eq (t : List UInt8) : pathP t = pathB t := by
  unfold pathP pathB
  by_cases hf : (cutB t 91).2.2 = true
  · obtain ⟨e1, e2⟩ := cutB_back hf
    generalize (cutB t 91).1 = f at *
    generalize (cutB t 91).2.1 = r at *
    by_cases ht : tokenB f = true
    · have hB : ¬ ((cutB t 91).2.2 = false ∨ tokenB f = false) := fun h => by rcases h with h | h; (rw [hf] at h; cases h); (rw [ht] at h; cases h)
      rw [if_neg hB]
      by_cases hg : r.getLast? = some 93 ∧ okP (splP r.dropLast) = true
      · obtain ⟨h1, h2⟩ := hg
        have hA : (cutB t 91).2.2 = true ∧ r.getLast? = some 93 ∧ tokenB f = true ∧ okP (splP r.dropLast) = true := ⟨hf, h1, ht, h2⟩
        rw [if_pos hA]
        have hr : r = r.dropLast ++ [93] := by
          rcases List.eq_nil_or_concat r with e | ⟨q, d, e⟩
          · rw [e] at h1; cases h1
          · rw [List.concat_eq_append] at e
            subst e
            simp at h1
            subst h1
            simp
        have hj : joinP (splP r.dropLast) = r.dropLast := (join_splK _ _ rfl).1
        have hlen : t.length = f.length + 1 + r.length := by
          conv => lhs; rw [e1]
          simp
          omega
        have := docP_join (splP r.dropLast) t.length (by
          rw [hj]
          have : r.length = r.dropLast.length + 1 := by
            conv => lhs; rw [hr]
            simp
          omega) h2
        rw [hj, ← hr] at this
        rw [this]
      · have hA : ¬ ((cutB t 91).2.2 = true ∧ r.getLast? = some 93 ∧ tokenB f = true ∧ okP (splP r.dropLast) = true) := fun h => hg ⟨h.2.1, h.2.2.2⟩
        rw [if_neg hA]
        cases hd : docP t.length (91 :: r) with
        | none => rfl
        | some ps =>
          exfalso
          apply hg
          rcases docP_back _ _ _ hd with ⟨h, _⟩ | ⟨h1, h2⟩
          · cases h
          · injection h1 with _ h1
            subst h1
            have hne : ps ≠ [] := fun e => by subst e; simp [okP] at h2
            refine ⟨by simp, ?_⟩
            rw [List.dropLast_concat, splP_join ps hne (okP_no h2)]
            exact h2
    · have hA : ¬ ((cutB t 91).2.2 = true ∧ r.getLast? = some 93 ∧ tokenB f = true ∧ okP (splP r.dropLast) = true) := fun h => ht h.2.2.1
      have hB : (cutB t 91).2.2 = false ∨ tokenB f = false := .inr (by simpa using ht)
      rw [if_neg hA, if_pos hB]
  · rw [if_neg (fun h => hf h.1), if_pos (.inl (by simpa using hf))]
end Go.Proofs.YtmmjgbdihgdekaaDoor

/- strings.Cut, CutSuffix, Split, as the walks want them. -/
namespace Go.Proofs.YtmmjgbdihgdekaaDoor
open Go Go.RowKit
set_option linter.unusedSimpArgs false
set_option linter.unusedVariables false
set_option maxRecDepth 100000
set_option maxHeartbeats 4000000
theorem below_drewN0 (w : World) (n : Nat) : Below w.heap.size w (w.drewN n) := ⟨rfl, rfl, rfl, Nat.le_refl _, fun _ _ => rfl⟩
theorem index_one (b : UInt8) : ∀ t : List UInt8, Lib.index t [b] = if t.contains b then (t.idxOf b : Int) else -1
  | [] => rfl
  | c :: r => by
    have ih := index_one b r
    rw [Lib.index, ih]
    by_cases h : c = b
    · subst h
      simp [List.isPrefixOf]
    · have h1 : ([b] : List UInt8).isPrefixOf (c :: r) = false := by simp [List.isPrefixOf]; exact fun e => h e.symm
      rw [if_neg (by rw [h1]; simp)]
      have h2 : (c :: r).contains b = r.contains b := by
        simp only [List.contains_eq_mem, List.mem_cons]
        simp [Ne.symm h]
      have h4 : (c :: r).idxOf b = r.idxOf b + 1 := by
        rw [List.idxOf_cons]
        have : (c == b) = false := by simpa using h
        rw [this]
        rfl
      rw [h2, h4]
      by_cases h3 : r.contains b = true
      · rw [if_pos h3, if_pos h3]
        have : ((r.idxOf b : Int) == -1) = false := by rw [beq_eq_false_iff_ne]; omega
        simp [this]
      · rw [if_neg h3, if_neg h3]
        rfl
theorem cut_one (t : List UInt8) (b : UInt8) : Lib.cut t [b] = cutB t b := by
  unfold Lib.cut cutB
  rw [index_one]
  by_cases h : t.contains b = true
  · rw [if_pos h, if_pos h, if_pos (by omega)]
    simp
  · rw [if_neg h, if_neg h, if_neg (by omega)]
theorem scut_call (t : List UInt8) (ht : t.length ≤ 100000) (H : Heap) : VCall Tryd.prog 78 [strV t, strV [91]] H (fun v K => v = .tp [strV (cutB t 91).1, strV (cutB t 91).2.1, booV (cutB t 91).2.2] ∧ K = H) := by
  have := VCall.ofBelow (P := Tryd.prog) (f := 78) (vals := [.string ⟨t.toArray⟩, .string ⟨[91].toArray⟩]) (y := .tuple #[.string ⟨(cutB t 91).1.toArray⟩, .string ⟨(cutB t 91).2.1.toArray⟩, .bool (cutB t 91).2.2]) (H := H) (fun w hT => by
    obtain ⟨m, hm⟩ := hT.2
    refine (Tryd.strings_Cut ⟨t.toArray⟩ ⟨[91].toArray⟩ m w (by rw [szP]; omega) hm).mono ?_
    rintro e w' ⟨rfl, n, rfl⟩
    refine ⟨?_, below_drewN0 w n⟩
    rw [← cut_one])
  exact this
theorem scutsuf_call (t : List UInt8) (ht : t.length ≤ 100000) (H : Heap) : VCall Tryd.prog 79 [strV t, strV [93]] H (fun v K => v = (if t.getLast? = some 93 then .tp [strV t.dropLast, booV true] else .tp [strV t, booV false]) ∧ K = H) := by
  have hs : Lib.hasSuffix t [93] = decide (t.getLast? = some 93) := by
    unfold Lib.hasSuffix
    rcases List.eq_nil_or_concat t with e | ⟨q, d, e⟩
    · subst e; rfl
    · rw [List.concat_eq_append] at e
      subst e
      rw [Bool.eq_iff_iff, decide_eq_true_iff, List.isSuffixOf_iff_suffix]
      constructor
      · rintro ⟨u, hu⟩
        rw [← hu, List.getLast?_append]
        rfl
      · intro h
        rw [List.getLast?_append] at h
        have h : some d = some 93 := h
        injection h with h
        subst h
        exact ⟨q, rfl⟩
  have := VCall.ofBelow (P := Tryd.prog) (f := 79) (vals := [.string ⟨t.toArray⟩, .string ⟨[93].toArray⟩]) (y := .tuple #[.string ⟨(Lib.trimSuffix t [93]).toArray⟩, .bool (Lib.hasSuffix t [93])]) (H := H) (fun w hT => by
    refine (Tryd.strings_CutSuffix ⟨t.toArray⟩ ⟨[93].toArray⟩ w (by rw [szP]; omega)).mono ?_
    rintro e w' ⟨rfl, rfl⟩
    exact ⟨rfl, below_drewN0 w' 0⟩)
  refine this.mono ?_
  rintro v K ⟨rfl, rfl⟩
  refine ⟨?_, rfl⟩
  show VV.tp [strV (Lib.trimSuffix t [93]), booV (Lib.hasSuffix t [93])] = _
  unfold Lib.trimSuffix
  rw [hs]
  by_cases h : t.getLast? = some 93
  · rw [if_pos h, if_pos (by simpa using h), decide_eq_true h]
    congr 2
    rw [List.dropLast_eq_take]
    rfl
  · rw [if_neg h, if_neg (by simpa using h), decide_eq_false h]
theorem alloc_heap (w : World) (o : Obj) : (w.alloc o).heap = w.heap.push o := rfl
theorem split2_call (s : List UInt8) (hs : s.length ≤ 100000) (H : Heap) : VCall Tryd.prog 81 [strV s, strV [93, 91]] H (fun v K => v = roS (splP s) ∧ K = H) := fun B M Z ρ w ra h1 h2 => by
  obtain ⟨hlen, hrel⟩ := h2
  match hra : ra.toList, hlen with
  | [a0, a1], _ =>
    have e0 := sc_inv (hrel 0 (strV s) a0 rfl (by rw [hra]; rfl))
    have e1 := sc_inv (hrel 1 (strV [93, 91]) a1 rfl (by rw [hra]; rfl))
    subst e0 e1
    obtain rfl : ra = #[.string ⟨s.toArray⟩, .string ⟨[93, 91].toArray⟩] := by
      cases ra
      simp only at hra
      rw [hra]
    obtain ⟨m, hm⟩ := h1.tabs.2
    refine (Tryd.strings_Split ⟨s.toArray⟩ ⟨[93, 91].toArray⟩ m w (by rw [szP]; omega) hm (by decide)).mono ?_
    rintro e w' ⟨rfl, rfl⟩
    have hd := Lib.splitB_data ⟨[93, 91].toArray⟩ 0 (Lib.countB ⟨s.toArray⟩ ⟨[93, 91].toArray⟩) ⟨s.toArray⟩
    have hl := Lib.splitB_all ⟨[93, 91].toArray⟩ (by decide) 0 _ ⟨s.toArray⟩ rfl
    have hd : (Lib.splitB ⟨[93, 91].toArray⟩ 0 (Lib.countB ⟨s.toArray⟩ ⟨[93, 91].toArray⟩) ⟨s.toArray⟩).map (·.data.toList) = splP s := hd
    generalize Lib.splitB ⟨[93, 91].toArray⟩ 0 (Lib.countB ⟨s.toArray⟩ ⟨[93, 91].toArray⟩) ⟨s.toArray⟩ = bs at *
    have hn : Lib.countB ⟨s.toArray⟩ ⟨[93, 91].toArray⟩ + 1 = (splP s).length := by rw [← hd, List.length_map, hl]
    rw [hn]
    have hcs : bs.map Value.string = (splP s).map fun x => Value.string ⟨x.toArray⟩ := by
      rw [← hd, List.map_map]
      rfl
    rw [hcs]
    generalize splP s = ps at *
    obtain ⟨e3, r3⟩ := h1.step (Z' := fun k => Z k ∨ (w.heap.size ≤ k ∧ k < (w.alloc (.cells (ps.map fun x => Value.string ⟨x.toArray⟩).toArray 9)).heap.size)) (w' := w.alloc (.cells (ps.map fun x => Value.string ⟨x.toArray⟩).toArray 9)) rfl rfl rfl (by rw [alloc_heap]; simp) (fun k hk => by rw [alloc_heap, Array.getElem?_push_lt hk, Array.getElem?_eq_getElem hk]) (fun _ h => .inl h) (fun _ h => h)
    refine ⟨_, roS ps, H, _, ρ, rfl, ⟨rfl, rfl⟩, e3, r3, ?_⟩
    refine .ro (cs := ps.map fun x => Value.string ⟨x.toArray⟩) (.inr ⟨Nat.le_refl _, by rw [alloc_heap]; simp⟩) (Nat.le_refl _) (by simp) (fun i hi => ?_) (fun i u c hu hc => ?_)
    · rw [Nat.zero_add]
      simp [World.cell?, alloc_heap]
    · rw [List.getElem?_map] at hu hc
      cases hp : ps[i]? with
      | none => rw [hp] at hu; cases hu
      | some x =>
        rw [hp] at hu hc
        injection hu with hu
        injection hc with hc
        subst hu hc
        exact .sc rfl
end Go.Proofs.YtmmjgbdihgdekaaDoor

