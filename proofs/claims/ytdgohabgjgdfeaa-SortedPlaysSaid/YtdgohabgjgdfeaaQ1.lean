/- Sets in order: the plain law. No program in sight. -/
import Derived.Test.YtdgohabgjgdfeaaVd
import Derived.Lib.SlicesCompact
namespace Go.Proofs.Ytdgohabgjgdfeaa
open Go Go.RowKit
set_option linter.unusedSimpArgs false
set_option linter.unusedVariables false
set_option linter.unusedSectionVars false
section
variable {α : Type} [DecidableEq α] [Inhabited α] {lt : α → α → Bool}
structure LtOk (lt : α → α → Bool) : Prop where
  irr : ∀ x, lt x x = false
  trans : ∀ x y z, lt x y = true → lt y z = true → lt x z = true
  tri : ∀ x y, lt x y = true ∨ x = y ∨ lt y x = true
abbrev Ris (lt : α → α → Bool) (l : List α) : Prop := l.Pairwise (fun x y => lt x y = true)
theorem LtOk.asym (h : LtOk lt) {x y : α} (h1 : lt x y = true) (h2 : lt y x = true) : False := by
  have := h.trans _ _ _ h1 h2
  rw [h.irr] at this; cases this
theorem LtOk.not (h : LtOk lt) {x y : α} (h1 : lt x y = true) : lt y x = false := by
  cases h2 : lt y x
  · rfl
  · exact (h.asym h1 h2).elim
theorem ris_uniq (h : LtOk lt) : ∀ (a b : List α), Ris lt a → Ris lt b → (∀ x, x ∈ a ↔ x ∈ b) → a = b
  | [], [], _, _, _ => rfl
  | [], y :: b, _, _, e => by have := (e y).2 (by simp); simp at this
  | x :: a, [], _, _, e => by have := (e x).1 (by simp); simp at this
  | x :: a, y :: b, ha, hb, e => by
    obtain ⟨ha1, ha2⟩ := List.pairwise_cons.1 ha
    obtain ⟨hb1, hb2⟩ := List.pairwise_cons.1 hb
    have hxy : x = y := by
      rcases List.mem_cons.1 ((e x).1 (by simp)) with h1 | h1
      · exact h1
      · rcases List.mem_cons.1 ((e y).2 (by simp)) with h2 | h2
        · exact h2.symm
        · exact (h.asym (hb1 x h1) (ha1 y h2)).elim
    subst hxy
    have : a = b := by
      refine ris_uniq h a b ha2 hb2 fun z => ⟨fun hz => ?_, fun hz => ?_⟩
      · rcases List.mem_cons.1 ((e z).1 (by simp [hz])) with h1 | h1
        · subst h1; have := ha1 z hz; rw [h.irr] at this; cases this
        · exact h1
      · rcases List.mem_cons.1 ((e z).2 (by simp [hz])) with h1 | h1
        · subst h1; have := hb1 z hz; rw [h.irr] at this; cases this
        · exact h1
    rw [this]
theorem ris_nodup (h : LtOk lt) {l : List α} (hl : Ris lt l) : l.Nodup := hl.imp fun {x y} q e => by subst e; rw [h.irr] at q; cases q
/-! ### Of -/
def ofL (lt : α → α → Bool) (l : List α) : List α := Lib.compact (l.mergeSort fun x y => !lt y x)
theorem at_eq (zs : List α) {i : Nat} (h : i < zs.length) : zs.toArray[i]! = zs[i] := by
  rw [getElem!_pos zs.toArray i (by simpa using h)]; simp
theorem compact_mem (zs : List α) (x : α) : x ∈ Lib.compact zs ↔ x ∈ zs := by
  unfold Lib.compact Lib.compactUpTo
  constructor
  · intro h
    obtain ⟨i, hi, rfl⟩ := List.mem_map.1 h
    have hi2 := List.mem_range.1 (List.mem_filter.1 hi).1
    rw [at_eq zs hi2]
    exact List.getElem_mem _
  · have key : ∀ i, i < zs.length → zs.toArray[i]! ∈ ((List.range zs.length).filter (Lib.keeps zs.toArray)).map (zs.toArray[·]!) := by
      intro i
      induction i with
      | zero => intro h; exact List.mem_map.2 ⟨0, List.mem_filter.2 ⟨List.mem_range.2 h, by simp [Lib.keeps]⟩, rfl⟩
      | succ i ih =>
        intro h
        by_cases hk : zs.toArray[i + 1]! = zs.toArray[i]!
        · rw [hk]; exact ih (by omega)
        · exact List.mem_map.2 ⟨i + 1, List.mem_filter.2 ⟨List.mem_range.2 h, Lib.keeps_pos (by simpa using hk)⟩, rfl⟩
    intro h
    obtain ⟨i, hi, rfl⟩ := List.getElem_of_mem h
    rw [← at_eq zs hi]
    exact key i hi
theorem compact_ris (h : LtOk lt) {zs : List α} (hs : zs.Pairwise (fun x y => lt y x = false)) : Ris lt (Lib.compact zs) := by
  have hidx : ∀ i j, i ≤ j → j < zs.length → lt zs.toArray[j]! zs.toArray[i]! = false := by
    intro i j hij hj
    rw [at_eq zs hj, at_eq zs (show i < zs.length by omega)]
    rcases Nat.lt_or_ge i j with g | g
    · exact List.pairwise_iff_getElem.1 hs i j (by omega) hj g
    · obtain rfl : i = j := by omega
      exact h.irr _
  unfold Lib.compact Lib.compactUpTo Ris
  rw [List.pairwise_map]
  refine List.Pairwise.imp_of_mem (R := fun i j => i < j) ?_ (List.Pairwise.filter _ List.pairwise_lt_range)
  intro i j hi hj hij
  obtain ⟨hj1, hj2⟩ := List.mem_filter.1 hj
  have hjn := List.mem_range.1 hj1
  have hne : zs.toArray[j]! ≠ zs.toArray[j - 1]! := by
    simp only [Lib.keeps, decide_eq_true_eq] at hj2
    rcases hj2 with q | q
    · omega
    · exact q
  have h1 := hidx i (j - 1) (by omega) (by omega)
  have h2 := hidx (j - 1) j (by omega) hjn
  have h3 : lt zs.toArray[j - 1]! zs.toArray[j]! = true := by
    rcases h.tri zs.toArray[j - 1]! zs.toArray[j]! with q | q | q
    · exact q
    · exact absurd q.symm hne
    · rw [q] at h2; cases h2
  rcases h.tri zs.toArray[i]! zs.toArray[j - 1]! with q | q | q
  · exact h.trans _ _ _ q h3
  · rw [q]; exact h3
  · rw [q] at h1; cases h1
theorem sort_le (h : LtOk lt) (l : List α) : (l.mergeSort fun x y => !lt y x).Pairwise (fun x y => lt y x = false) := by
  have := List.pairwise_mergeSort (le := fun x y => !lt y x) (fun a b c h1 h2 => by
    simp only [Bool.not_eq_true'] at h1 h2 ⊢
    cases hc : lt c a
    · rfl
    · exfalso
      rcases h.tri a b with q | q | q
      · have := h.trans _ _ _ hc q
        rw [this] at h2; cases h2
      · subst q; rw [hc] at h2; cases h2
      · rw [q] at h1; cases h1) (fun a b => by
    cases hab : lt b a
    · simp
    · cases hba : lt a b
      · simp
      · exact (h.asym hab hba).elim) l
  exact this.imp fun {x y} q => by simpa using q
theorem ofL_ris (h : LtOk lt) (l : List α) : Ris lt (ofL lt l) := compact_ris h (sort_le h l)
theorem ofL_mem (l : List α) (x : α) : x ∈ ofL lt l ↔ x ∈ l := by
  unfold ofL
  rw [compact_mem, List.mem_mergeSort]
theorem ofL_len (l : List α) : (ofL lt l).length ≤ l.length := by
  unfold ofL Lib.compact Lib.compactUpTo
  rw [List.length_map]
  exact Nat.le_trans (List.length_filter_le _ _) (by simp)
theorem ofL_self (h : LtOk lt) {l : List α} (hl : Ris lt l) : ofL lt l = l := ris_uniq h _ _ (ofL_ris h l) hl fun x => ofL_mem l x
theorem ofL_congr (h : LtOk lt) {a b : List α} (e : ∀ x, x ∈ a ↔ x ∈ b) : ofL lt a = ofL lt b := ris_uniq h _ _ (ofL_ris h a) (ofL_ris h b) fun x => by rw [ofL_mem, ofL_mem, e]
/-! ### The document's Of -/
def insR (lt : α → α → Bool) (x : α) : List α → List α
  | [] => [x]
  | y :: r => if lt y x then y :: insR lt x r else x :: y :: r
def posR (lt : α → α → Bool) (x : α) : List α → Nat
  | [] => 0
  | y :: r => if lt y x then posR lt x r + 1 else 0
theorem posR_le (x : α) : ∀ l : List α, posR lt x l ≤ l.length
  | [] => Nat.le_refl _
  | y :: r => by unfold posR; split <;> simp; exact posR_le x r
theorem insR_eq (x : α) : ∀ l : List α, insR lt x l = l.take (posR lt x l) ++ x :: l.drop (posR lt x l)
  | [] => rfl
  | y :: r => by
    unfold insR posR
    split
    · rw [insR_eq x r]; simp
    · simp
theorem posR_lt {x : α} : ∀ {l : List α} {i : Nat} {y : α}, i < posR lt x l → l[i]? = some y → lt y x = true
  | [], i, y, h, _ => by simp [posR] at h
  | z :: r, i, y, h, e => by
    unfold posR at h
    split at h
    · rename_i hz
      cases i with
      | zero => simp at e; subst e; exact hz
      | succ i => exact posR_lt (l := r) (i := i) (by omega) (by simpa using e)
    · omega
theorem posR_at {x : α} : ∀ {l : List α} {y : α}, l[posR lt x l]? = some y → lt y x = false
  | [], y, e => by simp at e
  | z :: r, y, e => by
    unfold posR at e
    split at e
    · exact posR_at (l := r) (by simpa using e)
    · rename_i hz
      simp at e; subst e
      simpa using hz
theorem insR_mem (x z : α) : ∀ l : List α, z ∈ insR lt x l ↔ z = x ∨ z ∈ l
  | [] => by simp [insR]
  | y :: r => by
    unfold insR
    split
    · rw [List.mem_cons, insR_mem x z r, List.mem_cons]
      constructor
      · rintro (h | h | h)
        · exact .inr (.inl h)
        · exact .inl h
        · exact .inr (.inr h)
      · rintro (h | h | h)
        · exact .inr (.inl h)
        · exact .inl h
        · exact .inr (.inr h)
    · rw [List.mem_cons]
theorem insR_ris (h : LtOk lt) (x : α) : ∀ l : List α, Ris lt l → x ∉ l → Ris lt (insR lt x l)
  | [], _, _ => by simp [insR, Ris]
  | y :: r, hl, hx => by
    obtain ⟨h1, h2⟩ := List.pairwise_cons.1 hl
    unfold insR
    split
    · rename_i hy
      refine List.pairwise_cons.2 ⟨fun z hz => ?_, insR_ris h x r h2 (fun q => hx (by simp [q]))⟩
      rcases (insR_mem x z r).1 hz with rfl | hz
      · exact hy
      · exact h1 z hz
    · rename_i hy
      have hxy : lt x y = true := by
        rcases h.tri x y with q | q | q
        · exact q
        · exact absurd (q ▸ List.mem_cons_self) hx
        · exact absurd q hy
      refine List.pairwise_cons.2 ⟨fun z hz => ?_, hl⟩
      rcases List.mem_cons.1 hz with rfl | hz
      · exact hxy
      · exact h.trans _ _ _ hxy (h1 z hz)
def stepR (lt : α → α → Bool) (out : List α) (x : α) : List α := if x ∈ out then out else insR lt x out
def ofR (lt : α → α → Bool) (l : List α) : List α := l.foldl (stepR lt) []
theorem fold_ok (h : LtOk lt) : ∀ (l out : List α), Ris lt out → Ris lt (l.foldl (stepR lt) out) ∧ ∀ z, z ∈ l.foldl (stepR lt) out ↔ z ∈ out ∨ z ∈ l
  | [], out, ho => ⟨ho, fun z => by simp⟩
  | x :: l, out, ho => by
    rw [List.foldl_cons]
    by_cases hx : x ∈ out
    · have e : stepR lt out x = out := if_pos hx
      rw [e]
      obtain ⟨g1, g2⟩ := fold_ok h l out ho
      refine ⟨g1, fun z => ?_⟩
      rw [g2, List.mem_cons]
      constructor
      · rintro (q | q)
        · exact .inl q
        · exact .inr (.inr q)
      · rintro (q | rfl | q)
        · exact .inl q
        · exact .inl hx
        · exact .inr q
    · have e : stepR lt out x = insR lt x out := if_neg hx
      rw [e]
      obtain ⟨g1, g2⟩ := fold_ok h l _ (insR_ris h x out ho hx)
      refine ⟨g1, fun z => ?_⟩
      rw [g2, insR_mem, List.mem_cons]
      constructor
      · rintro ((q | q) | q)
        · exact .inr (.inl q)
        · exact .inl q
        · exact .inr (.inr q)
      · rintro (q | q | q)
        · exact .inl (.inr q)
        · exact .inl (.inl q)
        · exact .inr q
theorem ofR_eq (h : LtOk lt) (l : List α) : ofR lt l = ofL lt l := by
  obtain ⟨g1, g2⟩ := fold_ok h l [] List.Pairwise.nil
  exact ris_uniq h _ _ g1 (ofL_ris h l) fun z => by rw [ofL_mem]; exact (g2 z).trans (by simp)
/-! ### A walk through two sets -/
def mrg (lt : α → α → Bool) : List α → List α → List (α × Nat)
  | [], b => b.map fun y => (y, 2)
  | x :: a, [] => (x :: a).map fun y => (y, 1)
  | x :: a, y :: b => if lt y x then (y, 2) :: mrg lt (x :: a) b else if x = y then (x, 3) :: mrg lt a b else (x, 1) :: mrg lt a (y :: b)
termination_by a b => a.length + b.length
theorem mrg_nil (b : List α) : mrg lt [] b = b.map fun y => (y, 2) := by rw [mrg]
theorem mrg_nil2 (a : List α) : mrg lt a [] = a.map fun y => (y, 1) := by cases a <;> rw [mrg]; rfl
theorem mrg_cons (x y : α) (a b : List α) : mrg lt (x :: a) (y :: b) = if lt y x then (y, 2) :: mrg lt (x :: a) b else if x = y then (x, 3) :: mrg lt a b else (x, 1) :: mrg lt a (y :: b) := by rw [mrg]
def In3 (a b : List α) (z : α) (s : Nat) : Prop := (s = 1 ∧ z ∈ a ∧ z ∉ b) ∨ (s = 2 ∧ z ∉ a ∧ z ∈ b) ∨ (s = 3 ∧ z ∈ a ∧ z ∈ b)
theorem mrg_ok (h : LtOk lt) : ∀ (n : Nat) (a b : List α), a.length + b.length ≤ n → Ris lt a → Ris lt b → (∀ z s, (z, s) ∈ mrg lt a b ↔ In3 a b z s) ∧ (mrg lt a b).Pairwise (fun p q => lt p.1 q.1 = true) := by
  intro n
  induction n with
  | zero =>
    intro a b hn ha hb
    have h1 : a = [] := List.eq_nil_of_length_eq_zero (by omega)
    have h2 : b = [] := List.eq_nil_of_length_eq_zero (by omega)
    subst h1 h2
    rw [mrg_nil]
    simp [In3]
  | succ n ih =>
    intro a b hn ha hb
    match a, b with
    | [], b =>
      rw [mrg_nil]
      refine ⟨fun z s => ?_, ?_⟩
      · rw [List.mem_map]
        constructor
        · rintro ⟨q, hq, e⟩
          injection e with e1 e2
          subst e1 e2
          exact .inr (.inl ⟨rfl, by simp, hq⟩)
        · rintro (⟨_, q, _⟩ | ⟨rfl, _, q⟩ | ⟨_, q, _⟩)
          · simp at q
          · exact ⟨z, q, rfl⟩
          · simp at q
      · rw [List.pairwise_map]; exact hb
    | x :: a, [] =>
      rw [mrg_nil2]
      refine ⟨fun z s => ?_, ?_⟩
      · rw [List.mem_map]
        constructor
        · rintro ⟨q, hq, e⟩
          injection e with e1 e2
          subst e1 e2
          exact .inl ⟨rfl, hq, by simp⟩
        · rintro (⟨rfl, q, _⟩ | ⟨_, _, q⟩ | ⟨_, _, q⟩)
          · exact ⟨z, q, rfl⟩
          · simp at q
          · simp at q
      · rw [List.pairwise_map]; exact ha
    | x :: a, y :: b =>
      obtain ⟨ha1, ha2⟩ := List.pairwise_cons.1 ha
      obtain ⟨hb1, hb2⟩ := List.pairwise_cons.1 hb
      simp only [List.length_cons] at hn
      have nb : ∀ z ∈ b, z ≠ y := fun z hz e => by subst e; have := hb1 z hz; rw [h.irr] at this; cases this
      have na : ∀ z ∈ a, z ≠ x := fun z hz e => by subst e; have := ha1 z hz; rw [h.irr] at this; cases this
      rw [mrg_cons]
      split
      · rename_i hyx
        obtain ⟨g1, g2⟩ := ih (x :: a) b (by simp only [List.length_cons]; omega) ha hb2
        have low : ∀ z ∈ x :: a, lt y z = true := fun z hz => by
          rcases List.mem_cons.1 hz with rfl | hz
          · exact hyx
          · exact h.trans _ _ _ hyx (ha1 z hz)
        have nx : y ∉ x :: a := fun q => by have := low y q; rw [h.irr] at this; cases this
        refine ⟨fun z s => ?_, List.pairwise_cons.2 ⟨fun q hq => ?_, g2⟩⟩
        · rw [List.mem_cons, g1]
          unfold In3
          by_cases hz : z = y
          · subst hz
            have h0 : z ∉ b := fun q => nb z q rfl
            constructor
            · rintro (e | ⟨_, q, _⟩ | ⟨_, _, q⟩ | ⟨_, _, q⟩)
              · injection e with _ e; exact .inr (.inl ⟨e, nx, by simp⟩)
              · exact absurd q nx
              · exact absurd q h0
              · exact absurd q h0
            · rintro (⟨_, q, _⟩ | ⟨e, _⟩ | ⟨_, q, _⟩)
              · exact absurd q nx
              · exact .inl (by rw [e])
              · exact absurd q nx
          · have e : z ∈ y :: b ↔ z ∈ b := by simp [hz]
            rw [e]
            constructor
            · rintro (q | q)
              · injection q with q _; exact absurd q hz
              · exact q
            · exact .inr
        · obtain ⟨z, s⟩ := q
          rcases (g1 z s).1 hq with ⟨_, q, _⟩ | ⟨_, _, q⟩ | ⟨_, _, q⟩
          · exact low z q
          · exact hb1 z q
          · exact hb1 z q
      · rename_i hyx
        split
        · rename_i hxy
          subst hxy
          obtain ⟨g1, g2⟩ := ih a b (by omega) ha2 hb2
          refine ⟨fun z s => ?_, List.pairwise_cons.2 ⟨fun q hq => ?_, g2⟩⟩
          · rw [List.mem_cons, g1]
            unfold In3
            by_cases hz : z = x
            · subst hz
              have h0 : z ∉ b := fun q => nb z q rfl
              have h1 : z ∉ a := fun q => na z q rfl
              constructor
              · rintro (e | ⟨_, q, _⟩ | ⟨_, _, q⟩ | ⟨_, _, q⟩)
                · injection e with _ e; exact .inr (.inr ⟨e, by simp, by simp⟩)
                · exact absurd q h1
                · exact absurd q h0
                · exact absurd q h0
              · rintro (⟨_, _, q⟩ | ⟨_, q, _⟩ | ⟨e, _⟩)
                · exact absurd List.mem_cons_self q
                · exact absurd List.mem_cons_self q
                · exact .inl (by rw [e])
            · have e1 : z ∈ x :: b ↔ z ∈ b := by simp [hz]
              have e2 : z ∈ x :: a ↔ z ∈ a := by simp [hz]
              rw [e1, e2]
              constructor
              · rintro (q | q)
                · injection q with q _; exact absurd q hz
                · exact q
              · exact .inr
          · obtain ⟨z, s⟩ := q
            rcases (g1 z s).1 hq with ⟨_, q, _⟩ | ⟨_, _, q⟩ | ⟨_, _, q⟩
            · exact ha1 z q
            · exact hb1 z q
            · exact hb1 z q
        · rename_i hxy
          have hlt : lt x y = true := by
            rcases h.tri x y with q | q | q
            · exact q
            · exact absurd q hxy
            · exact absurd q hyx
          obtain ⟨g1, g2⟩ := ih a (y :: b) (by simp only [List.length_cons]; omega) ha2 hb
          have low : ∀ z ∈ y :: b, lt x z = true := fun z hz => by
            rcases List.mem_cons.1 hz with rfl | hz
            · exact hlt
            · exact h.trans _ _ _ hlt (hb1 z hz)
          have nx : x ∉ y :: b := fun q => by have := low x q; rw [h.irr] at this; cases this
          refine ⟨fun z s => ?_, List.pairwise_cons.2 ⟨fun q hq => ?_, g2⟩⟩
          · rw [List.mem_cons, g1]
            unfold In3
            by_cases hz : z = x
            · subst hz
              have h0 : z ∉ a := fun q => na z q rfl
              constructor
              · rintro (e | ⟨_, q, _⟩ | ⟨_, _, q⟩ | ⟨_, q, _⟩)
                · injection e with _ e; exact .inl ⟨e, by simp, nx⟩
                · exact absurd q h0
                · exact absurd q nx
                · exact absurd q h0
              · rintro (⟨e, _⟩ | ⟨_, _, q⟩ | ⟨_, _, q⟩)
                · exact .inl (by rw [e])
                · exact absurd q nx
                · exact absurd q nx
            · have e : z ∈ x :: a ↔ z ∈ a := by simp [hz]
              rw [e]
              constructor
              · rintro (q | q)
                · injection q with q _; exact absurd q hz
                · exact q
              · exact .inr
          · obtain ⟨z, s⟩ := q
            rcases (g1 z s).1 hq with ⟨_, q, _⟩ | ⟨_, _, q⟩ | ⟨_, q, _⟩
            · exact ha1 z q
            · exact low z q
            · exact ha1 z q
def sel (p : Nat → Bool) (l : List (α × Nat)) : List α := (l.filter fun q => p q.2).map (·.1)
theorem sel_cons (p : Nat → Bool) (x : α) (s : Nat) (l : List (α × Nat)) : sel p ((x, s) :: l) = if p s then x :: sel p l else sel p l := by
  unfold sel
  rw [List.filter_cons]
  split <;> simp
/-- What is chosen of two sets. -/
def selL (lt : α → α → Bool) (p : Nat → Bool) (a b : List α) : List α := sel p (mrg lt a b)
theorem selL_mem (h : LtOk lt) (p : Nat → Bool) {a b : List α} (ha : Ris lt a) (hb : Ris lt b) (z : α) : z ∈ selL lt p a b ↔ (p 1 = true ∧ z ∈ a ∧ z ∉ b) ∨ (p 2 = true ∧ z ∉ a ∧ z ∈ b) ∨ (p 3 = true ∧ z ∈ a ∧ z ∈ b) := by
  obtain ⟨g1, _⟩ := mrg_ok h _ a b (Nat.le_refl _) ha hb
  unfold selL sel
  rw [List.mem_map]
  constructor
  · rintro ⟨⟨x, s⟩, hx, rfl⟩
    obtain ⟨h1, h2⟩ := List.mem_filter.1 hx
    rcases (g1 x s).1 h1 with ⟨rfl, q⟩ | ⟨rfl, q⟩ | ⟨rfl, q⟩
    · exact .inl ⟨h2, q⟩
    · exact .inr (.inl ⟨h2, q⟩)
    · exact .inr (.inr ⟨h2, q⟩)
  · rintro (⟨hp, q⟩ | ⟨hp, q⟩ | ⟨hp, q⟩)
    · exact ⟨(z, 1), List.mem_filter.2 ⟨(g1 z 1).2 (.inl ⟨rfl, q⟩), hp⟩, rfl⟩
    · exact ⟨(z, 2), List.mem_filter.2 ⟨(g1 z 2).2 (.inr (.inl ⟨rfl, q⟩)), hp⟩, rfl⟩
    · exact ⟨(z, 3), List.mem_filter.2 ⟨(g1 z 3).2 (.inr (.inr ⟨rfl, q⟩)), hp⟩, rfl⟩
theorem selL_ris (h : LtOk lt) (p : Nat → Bool) {a b : List α} (ha : Ris lt a) (hb : Ris lt b) : Ris lt (selL lt p a b) := by
  obtain ⟨_, g2⟩ := mrg_ok h _ a b (Nat.le_refl _) ha hb
  unfold selL sel Ris
  rw [List.pairwise_map]
  exact g2.filter _
def pJoin : Nat → Bool := fun _ => true
def pMeet : Nat → Bool := fun s => s == 3
def pMinus : Nat → Bool := fun s => s == 1
def bothL (a b : List α) (i : Bool) : List α := a.filter fun x => b.contains x == i
theorem bothL_ris {a b : List α} (i : Bool) (ha : Ris lt a) : Ris lt (bothL a b i) := ha.filter _
theorem bothL_mem (a b : List α) (z : α) : (z ∈ bothL a b true ↔ z ∈ a ∧ z ∈ b) ∧ (z ∈ bothL a b false ↔ z ∈ a ∧ z ∉ b) := by
  unfold bothL
  constructor
  · rw [List.mem_filter]; simp
  · rw [List.mem_filter]; simp
theorem join_mem (h : LtOk lt) {a b : List α} (ha : Ris lt a) (hb : Ris lt b) (z : α) : z ∈ selL lt pJoin a b ↔ z ∈ a ∨ z ∈ b := by
  rw [selL_mem h _ ha hb]
  simp only [pJoin, true_and]
  by_cases h1 : z ∈ a <;> by_cases h2 : z ∈ b <;> simp [h1, h2]
theorem meet_mem (h : LtOk lt) {a b : List α} (ha : Ris lt a) (hb : Ris lt b) (z : α) : z ∈ selL lt pMeet a b ↔ z ∈ a ∧ z ∈ b := by
  rw [selL_mem h _ ha hb]
  simp [pMeet]
theorem minus_mem (h : LtOk lt) {a b : List α} (ha : Ris lt a) (hb : Ris lt b) (z : α) : z ∈ selL lt pMinus a b ↔ z ∈ a ∧ z ∉ b := by
  rw [selL_mem h _ ha hb]
  simp [pMinus]
theorem join_eq (h : LtOk lt) {a b : List α} (ha : Ris lt a) (hb : Ris lt b) : selL lt pJoin a b = ofL lt (a ++ b) :=
  ris_uniq h _ _ (selL_ris h _ ha hb) (ofL_ris h _) fun z => by rw [join_mem h ha hb, ofL_mem, List.mem_append]
theorem meet_eq (h : LtOk lt) {a b : List α} (ha : Ris lt a) (hb : Ris lt b) : selL lt pMeet a b = bothL a b true :=
  ris_uniq h _ _ (selL_ris h _ ha hb) (bothL_ris true ha) fun z => by rw [meet_mem h ha hb, (bothL_mem a b z).1]
theorem minus_eq (h : LtOk lt) {a b : List α} (ha : Ris lt a) (hb : Ris lt b) : selL lt pMinus a b = bothL a b false :=
  ris_uniq h _ _ (selL_ris h _ ha hb) (bothL_ris false ha) fun z => by rw [minus_mem h ha hb, (bothL_mem a b z).2]
/-- Are all in another set? -/
def subL (lt : α → α → Bool) (a b : List α) : Bool := (mrg lt a b).all fun q => q.2 != 1
theorem subL_iff (h : LtOk lt) {a b : List α} (ha : Ris lt a) (hb : Ris lt b) : subL lt a b = true ↔ ∀ z ∈ a, z ∈ b := by
  obtain ⟨g1, _⟩ := mrg_ok h _ a b (Nat.le_refl _) ha hb
  unfold subL
  rw [List.all_eq_true]
  constructor
  · intro q z hz
    by_cases hb : z ∈ b
    · exact hb
    · have := q (z, 1) ((g1 z 1).2 (.inl ⟨rfl, hz, hb⟩))
      simp at this
  · rintro q ⟨z, s⟩ hz
    rcases (g1 z s).1 hz with ⟨rfl, h1, h2⟩ | ⟨rfl, _⟩ | ⟨rfl, _⟩
    · exact absurd (q z h1) h2
    · rfl
    · rfl
theorem subL_both (h : LtOk lt) {a b : List α} (ha : Ris lt a) (hb : Ris lt b) : subL lt a b = ((bothL a b false).length == 0) := by
  rw [Bool.eq_iff_iff, subL_iff h ha hb, beq_iff_eq, List.length_eq_zero_iff, List.eq_nil_iff_forall_not_mem]
  constructor
  · intro q z hz
    obtain ⟨h1, h2⟩ := ((bothL_mem a b z).2).1 hz
    exact h2 (q z h1)
  · intro q z hz
    by_cases hb : z ∈ b
    · exact hb
    · exact absurd (((bothL_mem a b z).2).2 ⟨hz, hb⟩) (q z)
/-- Which is less? -/
def cmpL (lt : α → α → Bool) : List α → List α → Int
  | [], [] => 0
  | [], _ :: _ => -1
  | _ :: _, [] => 1
  | x :: a, y :: b => if lt x y then -1 else if lt y x then 1 else cmpL lt a b
theorem cmpL_self (h : LtOk lt) : ∀ a : List α, cmpL lt a a = 0
  | [] => rfl
  | x :: a => by unfold cmpL; rw [if_neg (by rw [h.irr]; simp), if_neg (by rw [h.irr]; simp)]; exact cmpL_self h a
theorem cmpL_zero (h : LtOk lt) : ∀ a b : List α, cmpL lt a b = 0 → a = b
  | [], [], _ => rfl
  | [], _ :: _, e => by simp [cmpL] at e
  | _ :: _, [], e => by simp [cmpL] at e
  | x :: a, y :: b, e => by
    unfold cmpL at e
    split at e
    · simp at e
    · rename_i h1
      split at e
      · simp at e
      · rename_i h2
        have : x = y := by
          rcases h.tri x y with q | q | q
          · exact absurd q h1
          · exact q
          · exact absurd q h2
        rw [this, cmpL_zero h a b e]
theorem cmpL_neg (h : LtOk lt) : ∀ a b : List α, cmpL lt a b = - cmpL lt b a
  | [], [] => rfl
  | [], _ :: _ => rfl
  | _ :: _, [] => rfl
  | x :: a, y :: b => by
    unfold cmpL
    by_cases h1 : lt x y = true
    · have h2 : lt y x = false := by
        cases hh : lt y x
        · rfl
        · exact (h.asym h1 hh).elim
      simp [h1, h2]
    · by_cases h2 : lt y x = true
      · simp [h1, h2]
      · simp [h1, h2]
        exact cmpL_neg h a b
end
def ltI (x y : Int) : Bool := decide (x < y)
theorem lt_okI : LtOk ltI := ⟨fun x => by simp [ltI], fun x y z h1 h2 => by simp only [ltI, decide_eq_true_eq] at *; omega, fun x y => by simp only [ltI, decide_eq_true_eq]; omega⟩
end Go.Proofs.Ytdgohabgjgdfeaa
