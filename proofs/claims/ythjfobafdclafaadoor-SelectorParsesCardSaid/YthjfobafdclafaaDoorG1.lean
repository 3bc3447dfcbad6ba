import Derived.Test.YthjfobafdclafaaDoorE5
import Derived.Test.YthjfobafdclafaaDoorE4
/- Selectors, in plain words: what the program's reader makes of a text, what the document's does, and that they agree. No program in sight. -/
namespace Go.Proofs.YthjfobafdclafaaDoor
open Go Go.RowKit
set_option linter.unusedSimpArgs false
set_option linter.unusedVariables false
/-- A part of a compound: its kind, its name, its text, what stands in a :not. -/
inductive SPart where
  | mk (kind : Nat) (name text : List UInt8) (inner : List SPart)
def sgB (b : UInt8) : Bool := decide (97 ≤ b.toNat ∧ b.toNat ≤ 122) || decide (65 ≤ b.toNat ∧ b.toNat ≤ 90) || decide (48 ≤ b.toNat ∧ b.toNat ≤ 57) || b == 45 || b == 95
def skipS (p s : List UInt8) : Option (List UInt8) := if p.isPrefixOf s then some (s.drop p.length) else none
def tokS (s : List UInt8) : List UInt8 × List UInt8 := (s.takeWhile sgB, s.dropWhile sgB)
def failS (e f : Nat) : Nat := if e = 0 then f else e
def closeS (p : SPart) (s : List UInt8) (e : Nat) : SPart × List UInt8 × Nat := match skipS [93] s with
  | some r => (p, r, e)
  | none => (p, s, failS e 2)
/-- What the reader makes of what stands behind "[". -/
def attrS (s : List UInt8) : SPart × List UInt8 × Nat := match skipS [61, 34] (tokS s).2 with
  | some r => if (cutB r 34).2.2 then closeS (.mk 4 (tokS s).1 (cutB r 34).1 []) (cutB r 34).2.1 (if (tokS s).1 = [] then 2 else 0) else (.mk 3 (tokS s).1 [] [], r, failS (if (tokS s).1 = [] then 2 else 0) 2)
  | none => closeS (.mk 3 (tokS s).1 [] []) (tokS s).2 (if (tokS s).1 = [] then 2 else 0)
def headS (s : List UInt8) : List SPart × List UInt8 := match skipS [42] s with
  | some r => ([.mk 0 [] [] []], r)
  | none => if (tokS s).1 = [] then ([], s) else ([.mk 1 (tokS s).1 [] []], (tokS s).2)
def overS (r : List SPart × List UInt8 × Nat) : List SPart × List UInt8 × Nat := (r.1, r.2.1, if r.1 = [] then failS r.2.2 2 else r.2.2)
def wFirst : List UInt8 := [58, 102, 105, 114, 115, 116]
def wEmpty : List UInt8 := [58, 101, 109, 112, 116, 121]
def wNot : List UInt8 := [58, 110, 111, 116, 40]
/-- The program's reader: parts that aren't tags, one after the other. -/
def loopS : Nat → Nat → List SPart → List UInt8 → Nat → List SPart × List UInt8 × Nat
  | 0, _, out, s, e => (out, s, e)
  | n + 1, d, out, s, e => if e ≠ 0 then (out, s, e) else match skipS [35] s with
    | some r => loopS n d (out ++ [.mk 2 [] (tokS r).1 []]) (tokS r).2 (if (tokS r).1 = [] then 2 else 0)
    | none => match skipS [91] s with
      | some r => loopS n d (out ++ [(attrS r).1]) (attrS r).2.1 (attrS r).2.2
      | none => match skipS wFirst s with
        | some r => loopS n d (out ++ [.mk 5 [] [] []]) r 0
        | none => match skipS wEmpty s with
          | some r => loopS n d (out ++ [.mk 6 [] [] []]) r 0
          | none => match skipS wNot s with
            | some r => if 16 ≤ d then loopS n d (out ++ [.mk 0 [] [] []]) r 9 else
              let c := overS (loopS n (d + 1) (headS r).1 (headS r).2 0)
              match skipS [41] c.2.1 with
              | some q => loopS n d (out ++ [.mk 7 [] [] c.1]) q c.2.2
              | none => loopS n d (out ++ [.mk 7 [] [] c.1]) c.2.1 (failS c.2.2 2)
            | none => (out, s, 0)
def compS (n d : Nat) (s : List UInt8) : List SPart × List UInt8 × Nat := overS (loopS n d (headS s).1 (headS s).2 0)
/-- The document's: an error, or parts and the rest. -/
inductive SR where
  | err (e : Nat)
  | ok (l : List SPart) (r : List UInt8)
def closeD (p : SPart) (s : List UInt8) : Option (SPart × List UInt8) := (skipS [93] s).map fun r => (p, r)
def attrD (s : List UInt8) : Option (SPart × List UInt8) := if (tokS s).1 = [] then none else match skipS [61, 34] (tokS s).2 with
  | some r => if (cutB r 34).2.2 then closeD (.mk 4 (tokS s).1 (cutB r 34).1 []) (cutB r 34).2.1 else none
  | none => closeD (.mk 3 (tokS s).1 [] []) (tokS s).2
def loopD : Nat → Nat → List SPart → List UInt8 → SR
  | 0, _, _, _ => .err 0
  | n + 1, d, out, s => match skipS [35] s with
    | some r => if (tokS r).1 = [] then .err 2 else loopD n d (out ++ [.mk 2 [] (tokS r).1 []]) (tokS r).2
    | none => match skipS [91] s with
      | some r => match attrD r with
        | none => .err 2
        | some (p, q) => loopD n d (out ++ [p]) q
      | none => match skipS wFirst s with
        | some r => loopD n d (out ++ [.mk 5 [] [] []]) r
        | none => match skipS wEmpty s with
          | some r => loopD n d (out ++ [.mk 6 [] [] []]) r
          | none => match skipS wNot s with
            | some r => if d = 16 then .err 9 else match loopD n (d + 1) (headS r).1 (headS r).2 with
              | .err e => .err e
              | .ok l q => match skipS [41] q with
                | some q => loopD n d (out ++ [.mk 7 [] [] l]) q
                | none => .err 2
            | none => if out = [] then .err 2 else .ok out s
def compD (n d : Nat) (s : List UInt8) : SR := loopD n d (headS s).1 (headS s).2
/-- What both must agree in. -/
def Agree (a : List SPart × List UInt8 × Nat) (b : SR) : Prop := match b with
  | .err e => a.2.2 = e ∧ e ≠ 0
  | .ok l r => a = (l, r, 0)
theorem skipS_len {p s r : List UInt8} (h : skipS p s = some r) : r.length + p.length = s.length := by
  unfold skipS at h
  split at h
  · rename_i hp
    injection h with h
    subst h
    have := (List.isPrefixOf_iff_prefix.1 hp).length_le
    rw [List.length_drop]
    omega
  · cases h
theorem tokS_len (s : List UInt8) : (tokS s).1.length + (tokS s).2.length = s.length := by
  unfold tokS
  simp only
  rw [← List.length_append, List.takeWhile_append_dropWhile]
theorem headS_len (s : List UInt8) : (headS s).2.length ≤ s.length := by
  unfold headS
  split
  · rename_i r h
    have := skipS_len h
    simp only
    omega
  · split
    · exact Nat.le_refl _
    · have := tokS_len s
      simp only
      omega
theorem cutB_short (s : List UInt8) (b : UInt8) : (cutB s b).2.1.length ≤ s.length := by
  unfold cutB
  split <;> simp
theorem closeD_len {p : SPart} {s : List UInt8} {q : SPart} {r : List UInt8} (h : closeD p s = some (q, r)) : r.length < s.length := by
  unfold closeD at h
  cases hs : skipS [93] s with
  | none => rw [hs] at h; cases h
  | some x =>
    rw [hs] at h
    injection h with h
    injection h with _ h
    subst h
    have := skipS_len hs
    simp only [List.length_cons, List.length_nil] at this
    omega
theorem attrD_len {s : List UInt8} {q : SPart} {r : List UInt8} (h : attrD s = some (q, r)) : r.length ≤ s.length := by
  have ht := tokS_len s
  unfold attrD at h
  split at h
  · cases h
  · split at h
    · rename_i x hx
      have h1 := skipS_len hx
      split at h
      · have h2 := cutB_short x 34
        have := closeD_len h
        omega
      · cases h
    · have := closeD_len h
      omega
theorem attr_agree (s : List UInt8) : match attrD s with
    | none => (attrS s).2.2 = 2
    | some (p, q) => attrS s = (p, q, 0) := by
  unfold attrD attrS closeD closeS failS
  by_cases h0 : (tokS s).1 = []
  · rw [if_pos h0]
    simp only [h0, if_true]
    cases skipS [61, 34] (tokS s).2 with
    | none => simp only; cases skipS [93] (tokS s).2 <;> simp
    | some r =>
      simp only
      cases (cutB r 34).2.2 with
      | false => simp
      | true => simp only [if_true]; cases skipS [93] (cutB r 34).2.1 <;> simp
  · rw [if_neg h0]
    simp only [h0, if_false]
    cases skipS [61, 34] (tokS s).2 with
    | none => simp only; cases skipS [93] (tokS s).2 <;> simp
    | some r =>
      simp only
      cases (cutB r 34).2.2 with
      | false => simp
      | true => simp only [if_true]; cases skipS [93] (cutB r 34).2.1 <;> simp
theorem loop_stop {n d : Nat} {out : List SPart} {s : List UInt8} {e : Nat} (he : e ≠ 0) : loopS n d out s e = (out, s, e) := by
  cases n with
  | zero => rfl
  | succ n => rw [loopS, if_pos he]
theorem over_err {a : List SPart × List UInt8 × Nat} {e : Nat} (h : a.2.2 = e) (he : e ≠ 0) : (overS a).2.2 = e := by
  unfold overS failS
  simp only
  split
  · rw [if_neg (by rw [h]; exact he), h]
  · exact h
theorem loopD_len : ∀ (n d : Nat) (out : List SPart) (s : List UInt8) {l : List SPart} {q : List UInt8}, loopD n d out s = .ok l q → q.length ≤ s.length
  | 0, _, _, s, l, q, h => by cases h
  | n + 1, d, out, s, l, q, h => by
    rw [loopD] at h
    cases h1 : skipS [35] s with
    | some r =>
      have l1 := skipS_len h1
      have l2 := tokS_len r
      rw [h1] at h
      simp only at h
      split at h
      · cases h
      · have := loopD_len n d _ _ h
        omega
    | none =>
      rw [h1] at h
      simp only at h
      cases h2 : skipS [91] s with
      | some r =>
        have l1 := skipS_len h2
        rw [h2] at h
        simp only at h
        cases hq : attrD r with
        | none => rw [hq] at h; cases h
        | some pq =>
          obtain ⟨p, q2⟩ := pq
          have l2 := attrD_len hq
          rw [hq] at h
          have := loopD_len n d _ _ h
          omega
      | none =>
        rw [h2] at h
        simp only at h
        cases h3 : skipS wFirst s with
        | some r =>
          have l1 := skipS_len h3
          rw [h3] at h
          have := loopD_len n d _ _ h
          omega
        | none =>
          rw [h3] at h
          simp only at h
          cases h4 : skipS wEmpty s with
          | some r =>
            have l1 := skipS_len h4
            rw [h4] at h
            have := loopD_len n d _ _ h
            omega
          | none =>
            rw [h4] at h
            simp only at h
            cases h5 : skipS wNot s with
            | none =>
              rw [h5] at h
              simp only at h
              split at h
              · cases h
              · injection h with _ h
                subst h
                exact Nat.le_refl _
            | some r =>
              have l1 := skipS_len h5
              have l2 := headS_len r
              rw [h5] at h
              simp only at h
              split at h
              · cases h
              · cases hb : loopD n (d + 1) (headS r).1 (headS r).2 with
                | err e => rw [hb] at h; cases h
                | ok l2 q2 =>
                  rw [hb] at h
                  simp only at h
                  have l3 := loopD_len n (d + 1) _ _ hb
                  cases h6 : skipS [41] q2 with
                  | none => rw [h6] at h; cases h
                  | some q3 =>
                    have l4 := skipS_len h6
                    rw [h6] at h
                    have := loopD_len n d _ _ h
                    omega
theorem loop_agree : ∀ (n d : Nat) (out : List SPart) (s : List UInt8), s.length < n → d ≤ 16 → Agree (overS (loopS n d out s 0)) (loopD n d out s)
  | 0, _, _, s, h, _ => by omega
  | n + 1, d, out, s, h, hd => by
    have stop : ∀ (o : List SPart) (r : List UInt8) (e : Nat), e ≠ 0 → Agree (overS (loopS n d o r e)) (.err e) := fun o r e he => by
      rw [loop_stop he]
      exact ⟨over_err rfl he, he⟩
    rw [loopS, loopD, if_neg (by simp)]
    cases h1 : skipS [35] s with
    | some r =>
      have l1 := skipS_len h1
      have l2 := tokS_len r
      simp only [List.length_cons, List.length_nil] at l1
      simp only
      by_cases h0 : (tokS r).1 = []
      · rw [if_pos h0, if_pos h0]
        exact stop _ _ 2 (by simp)
      · rw [if_neg h0, if_neg h0]
        exact loop_agree n d _ _ (by omega) hd
    | none =>
      simp only
      cases h2 : skipS [91] s with
      | some r =>
        have l1 := skipS_len h2
        simp only [List.length_cons, List.length_nil] at l1
        simp only
        have ha := attr_agree r
        cases hq : attrD r with
        | none =>
          rw [hq] at ha
          simp only at ha
          rw [ha]
          exact stop _ _ 2 (by simp)
        | some pq =>
          obtain ⟨p, q⟩ := pq
          have l2 := attrD_len hq
          rw [hq] at ha
          simp only at ha
          rw [ha]
          exact loop_agree n d (out ++ [p]) q (by omega) hd
      | none =>
        simp only
        cases h3 : skipS wFirst s with
        | some r =>
          have l1 := skipS_len h3
          simp only [wFirst, List.length_cons, List.length_nil] at l1
          exact loop_agree n d _ _ (by omega) hd
        | none =>
          simp only
          cases h4 : skipS wEmpty s with
          | some r =>
            have l1 := skipS_len h4
            simp only [wEmpty, List.length_cons, List.length_nil] at l1
            exact loop_agree n d _ _ (by omega) hd
          | none =>
            simp only
            cases h5 : skipS wNot s with
            | none =>
              simp only
              by_cases ho : out = []
              · rw [if_pos ho]
                subst ho
                exact ⟨rfl, by simp⟩
              · rw [if_neg ho]
                unfold Agree overS
                simp only [if_neg ho]
            | some r =>
              have l1 := skipS_len h5
              have l2 := headS_len r
              simp only [wNot, List.length_cons, List.length_nil] at l1
              simp only
              by_cases h16 : d = 16
              · rw [if_pos h16, if_pos (show 16 ≤ d by omega)]
                exact stop _ _ 9 (by simp)
              · rw [if_neg h16, if_neg (show ¬ 16 ≤ d by omega)]
                have ih := loop_agree n (d + 1) (headS r).1 (headS r).2 (by omega) (by omega)
                generalize overS (loopS n (d + 1) (headS r).1 (headS r).2 0) = c at *
                cases hb : loopD n (d + 1) (headS r).1 (headS r).2 with
                | err e =>
                  rw [hb] at ih
                  obtain ⟨e1, e2⟩ := ih
                  simp only
                  cases skipS [41] c.2.1 with
                  | some q => simp only; rw [e1]; exact stop _ _ e e2
                  | none =>
                    simp only
                    unfold failS
                    rw [e1, if_neg e2]
                    exact stop _ _ e e2
                | ok l q =>
                  rw [hb] at ih
                  have ih : c = (l, q, 0) := ih
                  subst ih
                  simp only
                  have l3 := loopD_len n (d + 1) _ _ hb
                  cases h6 : skipS [41] q with
                  | some q2 =>
                    have l4 := skipS_len h6
                    simp only
                    exact loop_agree n d _ _ (by omega) hd
                  | none => exact stop _ _ 2 (by simp)
end Go.Proofs.YthjfobafdclafaaDoor

/- Calls that are given named blocks and change them: what else they made is taken as rows that nobody writes any more. Over any program. -/
namespace Go.Proofs.YthjfobafdclafaaDoor
open Go Go.RowKit
set_option linter.unusedSimpArgs false
set_option linter.unusedVariables false
theorem hget_mem {x0 : VObj} {b : Nat} : ∀ (l : List (Nat × VObj)), Go.Proofs.YthjfobafdclafaaDoor.hget l b = some x0 → b ∈ l.map (·.1) := by
  intro l
  induction l with
  | nil => intro h; simp [Go.Proofs.YthjfobafdclafaaDoor.hget] at h
  | cons p r ih =>
    obtain ⟨k, y⟩ := p
    intro h
    rw [hget_cons] at h
    split at h
    · rename_i e; subst e; simp
    · exact List.mem_cons_of_mem _ (ih h)
theorem hget_of_mem {b : Nat} : ∀ (l : List (Nat × VObj)), b ∈ l.map (·.1) → ∃ x, Go.Proofs.YthjfobafdclafaaDoor.hget l b = some x := by
  intro l
  induction l with
  | nil => intro h; simp at h
  | cons p r ih =>
    obtain ⟨k, y⟩ := p
    intro h
    rw [hget_cons]
    by_cases e : k = b
    · rw [if_pos e]; exact ⟨y, rfl⟩
    · rw [if_neg e]
      rcases List.mem_cons.1 h with h | h
      · exact absurd h.symm e
      · exact ih h
theorem VCall.trimC {P : Program} {f : FuncId} {args : List VV} {O1 : List (Nat × VObj)} {n1 : Nat} {Q : VV → Heap → Prop} {Q' : VV → List (Nat × VObj) → Prop}
    (hO : ∀ b x, hget O1 b = some x → ∃ vs, (x = .cells true vs ∨ x = .opt vs)) (h : VCall P f args ⟨O1, n1⟩ Q)
    (hv : ∀ v K, Q v K → ∃ u O2, O2.map (·.1) = O1.map (·.1) ∧ (∀ b x, hget O2 b = some x → K.get b = some x ∧ ∃ vs, (x = .cells true vs ∨ x = .opt vs) ∧ ∀ v ∈ vs, FrzB n1 ⟨restO (O1.map (·.1)) K.objs, K.next⟩ v v) ∧ Q' u O2 ∧ FrzB n1 ⟨restO (O1.map (·.1)) K.objs, K.next⟩ v u) :
    VCall P f args ⟨O1, n1⟩ (fun u K => ∃ O2, Q' u O2 ∧ K = ⟨O2, n1⟩) := fun B M Z ρ w ra h1 h2 => by
  refine (h w (Mine ⟨O1, n1⟩ ρ) Z ρ w ra (h1.part rfl fun _ _ h => h) h2).mono ?_
  rintro e w' ⟨v', v, K, Z', ρ', rfl, q, e1, r1, v1⟩
  obtain ⟨u, O2, hm2, hk, q', hf⟩ := hv v K q
  have mine : ∀ k, Mine ⟨O1, n1⟩ ρ k → B.heap.size ≤ k ∨ M k := fun k ⟨b, x, N, m1, m2, m3⟩ => by
    obtain ⟨k', N', o, g1, g2, g3, g4, g5⟩ := h1.objK m1 m3
    rw [m3] at g1; injection g1 with g1; injection g1 with g1 g1'; subst g1
    exact g5 m2
  have hsz := e1.size
  have k21 : ∀ b x, hget O2 b = some x → ∃ y, hget O1 b = some y := fun b x hx => hget_of_mem O1 (hm2 ▸ hget_mem O2 hx)
  have k12 : ∀ b x, hget O1 b = some x → ∃ y, hget O2 b = some y := fun b x hx => hget_of_mem O2 (hm2 ▸ hget_mem O1 hx)
  have zz : ∀ k, Z' k → Z k ∨ (w.heap.size ≤ k ∧ k < w'.heap.size) := fun k hkz => by
    rcases e1.znew k hkz with g | g | g | ⟨b, x, N, m1, m2, m3⟩
    · exact .inl g
    · exact .inr ⟨g, r1.zlt k hkz⟩
    · exact .inr ⟨g, r1.zlt k hkz⟩
    · obtain ⟨y, hy⟩ := k12 b x m1
      obtain ⟨k', N', o, g1, g2, g3, g4, g5⟩ := r1.objK (hk b y hy).1 (e1.rsub _ _ m3)
      rw [e1.rsub _ _ m3] at g1; injection g1 with g1; injection g1 with g1 g1'; subst g1
      exact absurd hkz g4
  have hget : ∀ b, (⟨restO (O1.map (·.1)) K.objs, K.next⟩ : Heap).get b = match memN b (O1.map (·.1)) with
    | true => none
    | false => K.get b := fun b => hget_restO _ b _
  have hsub : ∀ b x, (⟨restO (O1.map (·.1)) K.objs, K.next⟩ : Heap).get b = some x → K.get b = some x ∧ memN b (O1.map (·.1)) = false := fun b x hx => by
    rw [hget] at hx
    split at hx
    · cases hx
    · rename_i hm; exact ⟨hx, hm⟩
  have hBs : ({ w' with heap := w'.heap.extract 0 w.heap.size } : World).heap.size = w.heap.size := by
    show (w'.heap.extract 0 w.heap.size).size = _
    rw [Array.size_extract]; omega
  have hBk : ∀ k, k < w.heap.size → ({ w' with heap := w'.heap.extract 0 w.heap.size } : World).heap[k]? = w'.heap[k]? := fun k hk => by
    show (w'.heap.extract 0 w.heap.size)[k]? = _
    rw [Array.getElem?_extract, if_pos (by omega), Nat.zero_add]
  have hr : Rel { w' with heap := w'.heap.extract 0 w.heap.size } (fun _ => False) Z' ρ' ⟨restO (O1.map (·.1)) K.objs, K.next⟩ w' := by
    refine ⟨fun w2 a b c d e => ?_, rfl, rfl, rfl, by rw [hBs]; exact hsz, fun k hk _ => (hBk k (by rw [hBs] at hk; exact hk)).symm, r1.dom, fun b x hx => r1.live b x (hsub b x hx).1, fun b b' k N N' x x' hx hx' => r1.inj b b' k N N' x x' (hsub b x hx).1 (hsub b' x' hx').1, fun b x hx => ?_, r1.zlt⟩
    · refine r1.glob w2 (a.trans r1.os) (b.trans r1.tape) (c.trans r1.output) (by rw [hBs] at d; exact d) fun k hk hm => ?_
      rw [e k (by rw [hBs]; exact hk) id, hBk k hk]
      exact r1.frame k hk hm
    · obtain ⟨hx1, hx2⟩ := hsub b x hx
      rcases r1.obj b x hx1 with hg | ⟨k, N, o, g1, g2, g3, g4, g5⟩
      · exact .inl hg
      refine .inr ⟨k, N, o, g1, g2, g3, g4, fun hrw => .inl ?_⟩
      rw [hBs]
      refine (g5 hrw).resolve_right ?_
      rintro ⟨b0, x0, N0, m1, m2, m3⟩
      obtain ⟨y0, hy0⟩ := k12 b0 x0 m1
      have := r1.inj b b0 k N N0 x y0 hx1 (hk b0 y0 hy0).1 g1 (e1.rsub _ _ m3)
      subst this
      rw [memN_iff.2 (hget_mem O1 m1)] at hx2
      cases hx2
  have conv : ∀ {v u : VV} {y : Value}, FrzB n1 ⟨restO (O1.map (·.1)) K.objs, K.next⟩ v u → VRel w' Z' ρ' v y → VRel w' (fun k => Z k ∨ (w.heap.size ≤ k ∧ k < w'.heap.size)) ρ u y := fun hf hv => by
    refine (hf _ w' Z' ρ' ρ _ hr (fun b hb => (e1.rold b hb).symm) hv).zmono fun k hk => ?_
    rcases hk with hk | hk
    · exact zz k hk
    · rw [hBs] at hk; exact .inr hk
  refine ⟨v', u, ⟨O2, n1⟩, fun k => Z k ∨ (w.heap.size ≤ k ∧ k < w'.heap.size), ρ, rfl, ⟨O2, q', rfl⟩, ⟨Nat.le_refl _, fun _ _ => rfl, fun _ h => .inl h, fun _ _ h => h, e1.keep, e1.size, fun k hk => hk.imp id fun q => .inl q.1⟩, ⟨h1.glob, r1.os.trans h1.os, r1.tape.trans h1.tape, r1.output.trans h1.output, Nat.le_trans h1.size r1.size, ?_, h1.dom, ?_, ?_, ?_, ?_⟩, conv hf v1⟩
  · intro k hkb hM
    have hs1 := h1.size
    rw [r1.frame k (by omega) (fun hm => (mine k hm).elim (fun q => by omega) hM)]
    exact h1.frame k hkb hM
  · intro b x hx
    obtain ⟨y, hy⟩ := k21 b x hx
    exact h1.live b y hy
  · intro b b' k N N' x x' hx hx' g g'
    obtain ⟨y, hy⟩ := k21 b x hx
    obtain ⟨y', hy'⟩ := k21 b' x' hx'
    exact h1.inj b b' k N N' y y' hy hy' g g'
  · intro b x hx
    obtain ⟨y, hy⟩ := k21 b x hx
    have hlive : b < n1 := h1.live b y hy
    obtain ⟨hkx, vs, hxv, hvs⟩ := hk b x hx
    rcases r1.obj b x hkx with ⟨hg, hn⟩ | ⟨k, N, o, g1, g2, g3, g4, g5⟩
    · exact .inl ⟨hg, by rw [← e1.rold b hlive]; exact hn⟩
    have gρ : ρ b = some (k, N) := by rw [← e1.rold b hlive]; exact g1
    have hlt := h1.lt hy gρ
    refine .inr ⟨k, N, o, gρ, g2, ?_, fun hz => hz.elim (fun q => g4 (e1.zsub _ q)) (fun q => by omega), fun _ => ?_⟩
    · rcases hxv with rfl | rfl
      · obtain ⟨cs, t, fr, a0, a4, a2, a3⟩ := g3
        exact ⟨cs, t, fr, a0, a4, fun i u hu => let ⟨c, hc, hr⟩ := a2 i u hu; ⟨c, hc, conv (hvs u (List.mem_of_getElem? hu)) hr⟩, a3⟩
      · obtain ⟨cs, t, fr, a0, a4, a2, a3⟩ := g3
        exact ⟨cs, t, fr, a0, a4, fun i u hu => let ⟨c, hc, hr⟩ := a2 i u hu; ⟨c, hc, conv (hvs u (List.mem_of_getElem? hu)) hr⟩, a3⟩
    · obtain ⟨k', N', o', p1, p2, p3, p4, p5⟩ := h1.objK hy gρ
      rw [gρ] at p1; injection p1 with p1; injection p1 with p1 p1'; subst p1
      refine p5 ?_
      obtain ⟨ws, hw⟩ := hO b y hy
      rcases hw with rfl | rfl <;> rfl
  · intro k hkz
    rcases hkz with hkz | hkz
    · have := h1.zlt k hkz; omega
    · exact hkz.2
end Go.Proofs.YthjfobafdclafaaDoor

/- Selectors as the program holds them. -/
namespace Go.Proofs.YthjfobafdclafaaDoor
open Go Go.RowKit
set_option linter.unusedSimpArgs false
set_option linter.unusedVariables false
mutual
/-- A part's cells; k: how a kind is told. -/
def cellsP (kV : Nat → VV) : SPart → List VV
  | .mk k n t l => [kV k, strV n, strV t, .ro l.length (rowsQ kV l)]
def rowsQ (kV : Nat → VV) : List SPart → List VV
  | [] => []
  | p :: r => cellsP kV p ++ rowsQ kV r
end
theorem cellsP_len (kV : Nat → VV) : ∀ p : SPart, (cellsP kV p).length = 4
  | .mk _ _ _ _ => by rw [cellsP]; rfl
theorem rowsQ_len (kV : Nat → VV) : ∀ l : List SPart, (rowsQ kV l).length = l.length * 4
  | [] => by rw [rowsQ]; rfl
  | p :: r => by
    rw [rowsQ, List.length_append, cellsP_len, rowsQ_len kV r, List.length_cons]
    omega
theorem rowsQ_snoc (kV : Nat → VV) (p : SPart) : ∀ l : List SPart, rowsQ kV (l ++ [p]) = rowsQ kV l ++ cellsP kV p
  | [] => by simp only [List.nil_append, rowsQ, List.append_nil]
  | q :: r => by rw [List.cons_append, rowsQ, rowsQ, rowsQ_snoc kV p r, List.append_assoc]
mutual
theorem cellsP_nameless {kV : Nat → VV} (hk : ∀ k, Nameless (kV k)) : ∀ p : SPart, ∀ v ∈ cellsP kV p, Nameless v
  | .mk k n t l => fun v hv => by
    rw [cellsP] at hv
    simp only [List.mem_cons, List.not_mem_nil, or_false] at hv
    rcases hv with rfl | rfl | rfl | rfl
    · exact hk k
    · exact nameless_strV n
    · exact nameless_strV t
    · exact nameless_ro (rowsQ_nameless hk l)
theorem rowsQ_nameless {kV : Nat → VV} (hk : ∀ k, Nameless (kV k)) : ∀ l : List SPart, ∀ v ∈ rowsQ kV l, Nameless v
  | [] => fun v hv => by rw [rowsQ] at hv; cases hv
  | p :: r => fun v hv => by
    rw [rowsQ] at hv
    rcases List.mem_append.1 hv with hv | hv
    · exact cellsP_nameless hk p v hv
    · exact rowsQ_nameless hk r v hv
end
theorem rowsQ_at (kV : Nat → VV) : ∀ (l : List SPart) (i : Nat) (p : SPart), l[i]? = some p → ((rowsQ kV l).drop (i * 4)).take 4 = cellsP kV p ∧ i * 4 + 4 ≤ (rowsQ kV l).length
  | [], i, p, h => by simp at h
  | q :: r, 0, p, h => by
    simp at h
    subst h
    rw [rowsQ]
    refine ⟨?_, by rw [List.length_append, cellsP_len]; omega⟩
    rw [Nat.zero_mul, List.drop_zero, List.take_append_of_le_length (by rw [cellsP_len]; exact Nat.le_refl _), List.take_of_length_le (by rw [cellsP_len]; exact Nat.le_refl _)]
  | q :: r, i + 1, p, h => by
    have ih := rowsQ_at kV r i p (by simpa using h)
    rw [rowsQ, show (i + 1) * 4 = (cellsP kV q).length + i * 4 by rw [cellsP_len]; omega, List.drop_append]
    refine ⟨?_, by rw [List.length_append]; omega⟩
    rw [List.drop_of_length_le (by omega), List.nil_append, show (cellsP kV q).length + i * 4 - (cellsP kV q).length = i * 4 by omega]
    exact ih.1
/-- The rest of a text, where it lies in its block. -/
def restV (N : Nat) : List UInt8 → VV
  | [] => .ro 0 []
  | _ :: r => .sl 0 (N - (r.length + 1)) (r.length + 1) none 1
theorem restV_frz {N n : Nat} {K : Heap} (h0 : 0 < n) (s : List UInt8) : FrzB n K (restV N s) (restV N s) := by
  cases s with
  | nil => exact .of (nameless_ro (by simp))
  | cons c r => exact .sl h0
theorem suf_drop {t s : List UInt8} (h : s <:+ t) : s.length ≤ t.length ∧ t.drop (t.length - s.length) = s := ⟨h.length_le, (List.suffix_iff_eq_drop.1 h).symm⟩
theorem restV_view {t s : List UInt8} {H : Heap} (h : s <:+ t) (hg : H.get 0 = some (.cells true (t.map bV))) : View H (restV t.length s) (roB s) := by
  cases s with
  | nil => exact View.of (nameless_roB [])
  | cons c r =>
    obtain ⟨h1, h2⟩ := suf_drop h
    simp only [List.length_cons] at h1 h2
    have := View.sl (H := H) (b := 0) (o := t.length - (r.length + 1)) (n := r.length + 1) (z := 1) (c := none) hg (by simp; omega) (nameless_map nameless_bV t)
    have e : VV.ro (r.length + 1) (((t.map bV).drop (t.length - (r.length + 1))).take ((r.length + 1) * 1)) = roB (c :: r) := by
      unfold roB
      rw [Nat.mul_one, ← List.map_drop, h2, List.take_of_length_le (by simp)]
      rfl
    rwa [e] at this
end Go.Proofs.YthjfobafdclafaaDoor

/- Selectors, in plain words: chains, all of a text; its text and its weight. No program in sight. -/
namespace Go.Proofs.YthjfobafdclafaaDoor
open Go Go.RowKit
set_option linter.unusedSimpArgs false
set_option linter.unusedVariables false
abbrev SLink := List SPart × Bool
def blB (b : UInt8) : Bool := b == 32 || b == 9
def blS (s : List UInt8) : List UInt8 := s.dropWhile blB
def endS (s : List UInt8) : Bool := s.isEmpty || s.head? == some 44
/-- The program's chain. -/
def chainS : Nat → List SLink → List UInt8 → Nat → List SLink × List UInt8 × Nat
  | 0, out, s, e => (out, s, e)
  | n + 1, out, s, e => if e ≠ 0 then (out, s, e) else if endS (blS s) then (out, blS s, 0) else match skipS [62] (blS s) with
    | some r => chainS n (out ++ [((compS ((blS r).length + 1) 0 (blS r)).1, true)]) (compS ((blS r).length + 1) 0 (blS r)).2.1 (compS ((blS r).length + 1) 0 (blS r)).2.2
    | none => if (blS s).length = s.length then (out, blS s, 2) else chainS n (out ++ [((compS ((blS s).length + 1) 0 (blS s)).1, false)]) (compS ((blS s).length + 1) 0 (blS s)).2.1 (compS ((blS s).length + 1) 0 (blS s)).2.2
def firstS (n : Nat) (s : List UInt8) : List SLink × List UInt8 × Nat := chainS n [((compS (s.length + 1) 0 s).1, false)] (compS (s.length + 1) 0 s).2.1 (compS (s.length + 1) 0 s).2.2
inductive SelR where
  | err (e : Nat)
  | ok (l : List (List SLink))
def parseS : Nat → List (List SLink) → List UInt8 → SelR
  | 0, _, _ => .err 0
  | n + 1, acc, s => if (firstS (s.length + 2) (blS s)).2.2 ≠ 0 then .err (firstS (s.length + 2) (blS s)).2.2 else match skipS [44] (firstS (s.length + 2) (blS s)).2.1 with
    | some r => parseS n (acc ++ [(firstS (s.length + 2) (blS s)).1]) r
    | none => .ok (acc ++ [(firstS (s.length + 2) (blS s)).1])
/-- The document's. -/
inductive ChR where
  | err (e : Nat)
  | ok (l : List SLink) (r : List UInt8)
def chainD : Nat → List SLink → List UInt8 → Bool → ChR
  | 0, _, _, _ => .err 0
  | n + 1, out, s, ch => match compD (s.length + 1) 0 s with
    | .err e => .err e
    | .ok l r => if endS (blS r) then .ok (out ++ [(l, ch)]) (blS r) else match skipS [62] (blS r) with
      | some q => chainD n (out ++ [(l, ch)]) (blS q) true
      | none => if blS r = r then .err 2 else chainD n (out ++ [(l, ch)]) (blS r) false
def parseD : Nat → List (List SLink) → List UInt8 → SelR
  | 0, _, _ => .err 0
  | n + 1, acc, s => match chainD (s.length + 2) [] (blS s) false with
    | .err e => .err e
    | .ok l r => match r with
      | [] => .ok (acc ++ [l])
      | _ :: q => parseD n (acc ++ [l]) q
theorem blS_len (s : List UInt8) : (blS s).length ≤ s.length := by
  unfold blS
  exact (List.dropWhile_suffix _).length_le
theorem comp_agree (s : List UInt8) : Agree (compS (s.length + 1) 0 s) (compD (s.length + 1) 0 s) := by
  have := headS_len s
  exact loop_agree _ _ _ _ (by omega) (by omega)
theorem compD_len {s : List UInt8} {n : Nat} {l : List SPart} {r : List UInt8} (h : compD n 0 s = .ok l r) : r.length ≤ s.length := by
  have h1 := loopD_len n 0 _ _ h
  have := headS_len s
  omega
theorem blS_eq {s : List UInt8} : blS s = s ↔ (blS s).length = s.length := by
  constructor
  · intro h; rw [h]
  · intro h
    exact (List.dropWhile_suffix _).eq_of_length h
theorem chain_stop {n : Nat} {out : List SLink} {s : List UInt8} {e : Nat} (he : e ≠ 0) : chainS n out s e = (out, s, e) := by
  cases n with
  | zero => rfl
  | succ n => rw [chainS, if_pos he]
theorem chain_agree : ∀ (n : Nat) (out : List SLink) (s : List UInt8) (ch : Bool), s.length < n → match chainD n out s ch with
    | .err e => (chainS n (out ++ [((compS (s.length + 1) 0 s).1, ch)]) (compS (s.length + 1) 0 s).2.1 (compS (s.length + 1) 0 s).2.2).2.2 = e ∧ e ≠ 0
    | .ok l r => chainS n (out ++ [((compS (s.length + 1) 0 s).1, ch)]) (compS (s.length + 1) 0 s).2.1 (compS (s.length + 1) 0 s).2.2 = (l, r, 0) ∧ endS r = true ∧ r.length ≤ s.length
  | 0, _, _, _, h => by omega
  | n + 1, out, s, ch, h => by
    have hc := comp_agree s
    rw [chainD]
    cases hd : compD (s.length + 1) 0 s with
    | err e =>
      rw [hd] at hc
      obtain ⟨h1, h2⟩ := hc
      simp only
      rw [h1, chain_stop h2]
      exact ⟨rfl, h2⟩
    | ok l r =>
      rw [hd] at hc
      have hc : compS (s.length + 1) 0 s = (l, r, 0) := hc
      have hr := compD_len hd
      have hb := blS_len r
      rw [hc]
      simp only
      have e1 : chainS (n + 1) (out ++ [(l, ch)]) r 0 = if endS (blS r) = true then (out ++ [(l, ch)], blS r, 0) else match skipS [62] (blS r) with
        | some q => chainS n (out ++ [(l, ch)] ++ [((compS ((blS q).length + 1) 0 (blS q)).1, true)]) (compS ((blS q).length + 1) 0 (blS q)).2.1 (compS ((blS q).length + 1) 0 (blS q)).2.2
        | none => if (blS r).length = r.length then (out ++ [(l, ch)], blS r, 2) else chainS n (out ++ [(l, ch)] ++ [((compS ((blS r).length + 1) 0 (blS r)).1, false)]) (compS ((blS r).length + 1) 0 (blS r)).2.1 (compS ((blS r).length + 1) 0 (blS r)).2.2 := by
        rw [chainS, if_neg (by simp)]
      rw [e1]
      clear e1
      cases he : endS (blS r) with
      | true => exact ⟨rfl, he, by omega⟩
      | false =>
        simp only [Bool.false_eq_true, if_false]
        cases hs : skipS [62] (blS r) with
        | some q =>
          have hq := skipS_len hs
          simp only [List.length_cons, List.length_nil] at hq
          have hbq := blS_len q
          have ih := chain_agree n (out ++ [(l, ch)]) (blS q) true (by omega)
          simp only
          cases hx : chainD n (out ++ [(l, ch)]) (blS q) true with
          | err e =>
            rw [hx] at ih
            exact ih
          | ok l2 r2 =>
            rw [hx] at ih
            exact ⟨ih.1, ih.2.1, by have := ih.2.2; omega⟩
        | none =>
          simp only
          by_cases hbr : blS r = r
          · rw [if_pos hbr, if_pos (blS_eq.1 hbr)]
            exact ⟨rfl, by simp⟩
          · rw [if_neg hbr, if_neg (fun e => hbr (blS_eq.2 e))]
            have hlt : (blS r).length < r.length := by
              have : (blS r).length ≠ r.length := fun e => hbr (blS_eq.2 e)
              omega
            have ih := chain_agree n (out ++ [(l, ch)]) (blS r) false (by omega)
            cases hx : chainD n (out ++ [(l, ch)]) (blS r) false with
            | err e =>
              rw [hx] at ih
              exact ih
            | ok l2 r2 =>
              rw [hx] at ih
              exact ⟨ih.1, ih.2.1, by have := ih.2.2; omega⟩
theorem parse_agree : ∀ (n : Nat) (acc : List (List SLink)) (s : List UInt8), s.length < n → parseS n acc s = parseD n acc s
  | 0, _, _, h => by omega
  | n + 1, acc, s, h => by
    have hb := blS_len s
    have hc := chain_agree (s.length + 2) [] (blS s) false (by omega)
    rw [parseS, parseD]
    unfold firstS
    rw [List.nil_append] at hc
    cases hx : chainD (s.length + 2) [] (blS s) false with
    | err e =>
      rw [hx] at hc
      rw [hc.1, if_pos hc.2]
    | ok l r =>
      rw [hx] at hc
      obtain ⟨h1, h2, h3⟩ := hc
      rw [h1]
      simp only
      rw [if_neg (by simp)]
      cases r with
      | nil => rfl
      | cons c q =>
        have hc44 : c = 44 := by simpa [endS] using h2
        subst hc44
        simp only [List.length_cons] at h3
        have e : skipS [44] (44 :: q) = some q := rfl
        rw [e]
        exact parse_agree n _ q (by omega)
def anyQ : List SPart → List UInt8
  | [.mk 0 _ _ _] => [42]
  | _ => []
mutual
/-- A part's text. -/
def txtP : SPart → List UInt8
  | .mk k n t l => if k = 1 then n else if k = 2 then 35 :: t else if k = 3 then 91 :: (n ++ [93]) else if k = 4 then 91 :: (n ++ [61, 34] ++ t ++ [34, 93]) else if k = 5 then wFirst else if k = 6 then wEmpty else if k = 7 then wNot ++ (anyQ l ++ txtQ l) ++ [41] else []
def txtQ : List SPart → List UInt8
  | [] => []
  | p :: r => txtP p ++ txtQ r
end
/-- A compound's text. -/
def txtC (l : List SPart) : List UInt8 := anyQ l ++ txtQ l
/-- A compound's weight. -/
def addW (a b : Nat × Nat × Nat) : Nat × Nat × Nat := (a.1 + b.1, a.2.1 + b.2.1, a.2.2 + b.2.2)
mutual
def weiP : SPart → Nat × Nat × Nat
  | .mk k _ _ l => if k = 0 then (0, 0, 0) else if k = 1 then (0, 0, 1) else if k = 2 then (1, 0, 0) else if k = 7 then weiC l else (0, 1, 0)
def weiC : List SPart → Nat × Nat × Nat
  | [] => (0, 0, 0)
  | p :: r => addW (weiP p) (weiC r)
end
end Go.Proofs.YthjfobafdclafaaDoor

/- A reader over a named text: what a call of one of its methods is at its own names, and at any. Over any program. -/
namespace Go.Proofs.YthjfobafdclafaaDoor
open Go Go.RowKit
set_option linter.unusedSimpArgs false
set_option linter.unusedVariables false
def rdC (N : Nat) (s : List UInt8) (d e : Nat) : VObj := .cells true [restV N s, iV d, iV e]
def rdO (t s : List UInt8) (d e : Nat) : List (Nat × VObj) := [(1, rdC t.length s d e), (0, .cells true (t.map bV))]
theorem restO_out (D : List Nat) (b : Nat) (hb : memN b D = true) : ∀ O : List (Nat × VObj), memN b ((restO D O).map (·.1)) = false
  | [] => rfl
  | (k, x) :: r => by
    have ih := restO_out D b hb r
    unfold restO
    cases hm : memN k D with
    | true => exact ih
    | false =>
      simp only [List.map_cons]
      have hkb : b ≠ k := fun e => by rw [← e, hb] at hm; cases hm
      cases hq : memN b (k :: (restO D r).map (·.1)) with
      | false => rfl
      | true =>
        rcases List.mem_cons.1 (memN_iff.1 hq) with h | h
        · exact absurd h hkb
        · rw [memN_iff.2 h] at ih; cases ih
theorem restV_ren {N t : Nat} (s : List UInt8) : RenV [(1, 1), (0, 0)] t (restV N s) (restV N s) := by
  cases s with
  | nil => exact RenV.of (nameless_ro (by simp))
  | cons c r => exact RenV.sl (by simp)
theorem rdC_ren {N t : Nat} (s : List UInt8) (d e : Nat) : RenO [(1, 1), (0, 0)] t (rdC N s d e) (rdC N s d e) := .cells (.cons (restV_ren s) (.cons (RenV.of (nameless_sc _)) (.cons (RenV.of (nameless_sc _)) .nil)))
theorem VCall.rdAt {P : Program} {f : FuncId} {args : List VV} {t s s' : List UInt8} {d d' e e' : Nat} {u : VV} {H : Heap} (hu : Nameless u) (ha : RenL [(1, 1), (0, 0)] 0 args args) (h : VCall P f args ⟨rdO t s d e, 2⟩ (fun v K => v = u ∧ K = ⟨rdO t s' d' e', 2⟩))
    (h1 : H.get 1 = some (rdC t.length s d e)) (h0 : H.get 0 = some (.cells true (t.map bV))) (hn : Nat.ble 2 H.next = true) : VCall P f args H (fun v K => v = u ∧ K = ⟨rdO t s' d' e' ++ restO [1, 0] H.objs, H.next⟩) := by
  obtain ⟨objs, nx⟩ := H
  obtain ⟨m, rfl⟩ : ∃ m, nx = m + 2 := ⟨nx - 2, by have := Nat.le_of_ble_eq_true hn; simp only at this; omega⟩
  have g : ∀ b : Nat, memN b [1, 0] = true → (⟨keepO [1, 0] objs, m + 2⟩ : Heap).get b = (⟨objs, m + 2⟩ : Heap).get b := fun b hb => by
    show hget (keepO [1, 0] objs) b = hget objs b
    rw [hget_keepO, hb]
  refine VCall.at (n1 := 2) (O1 := rdO t s d e) [1, 0] [(1, 1), (0, 0)] rfl ⟨⟨_, (g 1 rfl).trans h1, rdC_ren s d e⟩, ⟨_, (g 0 rfl).trans h0, .cells (.of (nameless_map nameless_bV t))⟩, trivial⟩ ha h ?_
  rintro v K ⟨rfl, rfl⟩
  refine ⟨v, rdO t s' d' e', ⟨rfl, .of hu, ⟨⟨_, rfl, rdC_ren s' d' e'⟩, ⟨_, rfl, .cells (.of (nameless_map nameless_bV t))⟩, trivial⟩⟩, ?_, rfl, rfl⟩
  simp only [rdO, List.all_cons, List.all_nil, restO_out [1, 0] 1 rfl, restO_out [1, 0] 0 rfl]
  rfl
theorem VCall.rd {P : Program} {f : FuncId} {args : List VV} {t s s' : List UInt8} {d d' e e' : Nat} {u : VV}
    (h : VCall P f args ⟨rdO t s d e, 2⟩ (fun v K => FrzB 2 ⟨restO [1, 0] K.objs, K.next⟩ v u ∧ K.get 1 = some (rdC t.length s' d' e') ∧ K.get 0 = some (.cells true (t.map bV)))) : VCall P f args ⟨rdO t s d e, 2⟩ (fun v K => v = u ∧ K = ⟨rdO t s' d' e', 2⟩) := by
  refine (VCall.trimC (Q' := fun v O2 => v = u ∧ O2 = rdO t s' d' e') ?_ h ?_).mono ?_
  · intro b x hx
    unfold rdO at hx
    rw [hget_cons] at hx
    split at hx
    · injection hx with hx
      exact ⟨_, .inl hx.symm⟩
    · rw [hget_cons] at hx
      split at hx
      · injection hx with hx
        exact ⟨_, .inl hx.symm⟩
      · simp [hget] at hx
  · rintro v K ⟨hf, g1, g0⟩
    refine ⟨u, rdO t s' d' e', rfl, fun b x hx => ?_, ⟨rfl, rfl⟩, hf⟩
    unfold rdO at hx
    rw [hget_cons] at hx
    split at hx
    · rename_i eb
      subst eb
      injection hx with hx
      subst hx
      refine ⟨g1, _, .inl rfl, fun v hv => ?_⟩
      simp only [List.mem_cons, List.not_mem_nil, or_false] at hv
      rcases hv with rfl | rfl | rfl
      · exact restV_frz (by omega) s'
      · exact .of (nameless_sc _)
      · exact .of (nameless_sc _)
    · rw [hget_cons] at hx
      split at hx
      · rename_i eb
        subst eb
        injection hx with hx
        subst hx
        exact ⟨g0, _, .inl rfl, fun v hv => .of (nameless_map nameless_bV t v hv)⟩
      · simp [hget] at hx
  · rintro v K ⟨O2, ⟨rfl, rfl⟩, rfl⟩
    exact ⟨rfl, rfl⟩
end Go.Proofs.YthjfobafdclafaaDoor

/- The reader's small methods, walked. -/
namespace Go.Proofs.YthjfobafdclafaaDoor
open Go Go.RowKit
set_option linter.unusedSimpArgs false
set_option linter.unusedVariables false
set_option maxRecDepth 100000
set_option maxHeartbeats 8000000
theorem szP (l : List UInt8) : (⟨l.toArray⟩ : ByteArray).size = l.length := by simp [ByteArray.size]
theorem FrzB.tp0 {n : Nat} {K : Heap} : FrzB n K (.tp []) (.tp []) := .of (nameless_tp (by simp))
theorem fail_call (t s : List UInt8) (d e f : Nat) : VCall Tryd.prog 26 [.ptr 1 0, iV f] ⟨rdO t s d e, 2⟩ (fun v K => v = .tp [] ∧ K = ⟨rdO t s d (failS e f), 2⟩) := by
  refine VCall.rd ?_
  unfold failS
  cases s with
  | nil =>
    refine VCall.go Tryd.func26 rfl ?_
    by_cases he : e = 0
    · rw [if_pos he]
      repeat' (first|with_reducible refine And.intro ?_ ?_|((with_reducible intro hc);(try simp only [zA,zB,zC,zD,zE,zF,zG,zH,zI,zJ,zK,zL,zM,zN,zO,zP,zQ,zR,zS,zT,zU,zV,zW] at hc);(first|exact absurd rfl hc|exact absurd trivial hc|(exfalso;omega)|skip))|exact Is.mk rfl rfl|((conv => whnf);first|with_reducible refine And.intro ?_ ?_|with_reducible intro hx|exact Is.mk rfl rfl|(with_reducible first|apply Val.via|apply ValH.via)|refine ifB_intro ?_ ?_|refine xA (by omega) ?_|(refine xB ?_;intro kw hk1 hk2)|refine xC (by omega) ?_|refine xD ?_|refine xE (by omega) ?_|refine xF (by omega) ?_|refine xG ?_|refine xH ?_|refine xI (by omega) ?_|refine xJ (by omega) ?_|(with_reducible refine stopA ?_)|refine Exists.intro _ (And.intro (by (first|exact vat_of rfl rfl rfl|rfl)) ?_)|refine GOp.drawn (by rfl) (by rfl) (Nat.le_of_ble_eq_true (by rfl)) (by rfl)|refine GOp.via (by rfl) ?_|refine GWP.drawY mixed _ (by kernel_rfl) (by rfl) ?_|fail|(with_reducible first|refine stopO ?_|refine stopE ?_|refine stopD ?_|refine stopW ?_|refine stopG ?_|refine stopC ?_|refine stopR ?_)))
      (all_goals (first|omega|(rw [List.length_map];done)|(rw [List.length_map];omega)|contradiction|skip))
      exact Done'.mk ⟨.tp0, rfl, rfl⟩
    · rw [if_neg he]
      repeat' (first|with_reducible refine And.intro ?_ ?_|((with_reducible intro hc);(try simp only [zA,zB,zC,zD,zE,zF,zG,zH,zI,zJ,zK,zL,zM,zN,zO,zP,zQ,zR,zS,zT,zU,zV,zW] at hc);(first|exact absurd rfl hc|exact absurd trivial hc|(exfalso;omega)|skip))|exact Is.mk rfl rfl|((conv => whnf);first|with_reducible refine And.intro ?_ ?_|with_reducible intro hx|exact Is.mk rfl rfl|(with_reducible first|apply Val.via|apply ValH.via)|refine ifB_intro ?_ ?_|refine xA (by omega) ?_|(refine xB ?_;intro kw hk1 hk2)|refine xC (by omega) ?_|refine xD ?_|refine xE (by omega) ?_|refine xF (by omega) ?_|refine xG ?_|refine xH ?_|refine xI (by omega) ?_|refine xJ (by omega) ?_|(with_reducible refine stopA ?_)|refine Exists.intro _ (And.intro (by (first|exact vat_of rfl rfl rfl|rfl)) ?_)|refine GOp.drawn (by rfl) (by rfl) (Nat.le_of_ble_eq_true (by rfl)) (by rfl)|refine GOp.via (by rfl) ?_|refine GWP.drawY mixed _ (by kernel_rfl) (by rfl) ?_|fail|(with_reducible first|refine stopO ?_|refine stopE ?_|refine stopD ?_|refine stopW ?_|refine stopG ?_|refine stopC ?_|refine stopR ?_)))
      (all_goals (first|omega|(rw [List.length_map];done)|(rw [List.length_map];omega)|contradiction|skip))
      exact Done'.mk ⟨.tp0, rfl, rfl⟩
  | cons c r =>
    refine VCall.go Tryd.func26 rfl ?_
    by_cases he : e = 0
    · rw [if_pos he]
      repeat' (first|with_reducible refine And.intro ?_ ?_|((with_reducible intro hc);(try simp only [zA,zB,zC,zD,zE,zF,zG,zH,zI,zJ,zK,zL,zM,zN,zO,zP,zQ,zR,zS,zT,zU,zV,zW] at hc);(first|exact absurd rfl hc|exact absurd trivial hc|(exfalso;omega)|skip))|exact Is.mk rfl rfl|((conv => whnf);first|with_reducible refine And.intro ?_ ?_|with_reducible intro hx|exact Is.mk rfl rfl|(with_reducible first|apply Val.via|apply ValH.via)|refine ifB_intro ?_ ?_|refine xA (by omega) ?_|(refine xB ?_;intro kw hk1 hk2)|refine xC (by omega) ?_|refine xD ?_|refine xE (by omega) ?_|refine xF (by omega) ?_|refine xG ?_|refine xH ?_|refine xI (by omega) ?_|refine xJ (by omega) ?_|(with_reducible refine stopA ?_)|refine Exists.intro _ (And.intro (by (first|exact vat_of rfl rfl rfl|rfl)) ?_)|refine GOp.drawn (by rfl) (by rfl) (Nat.le_of_ble_eq_true (by rfl)) (by rfl)|refine GOp.via (by rfl) ?_|refine GWP.drawY mixed _ (by kernel_rfl) (by rfl) ?_|fail|(with_reducible first|refine stopO ?_|refine stopE ?_|refine stopD ?_|refine stopW ?_|refine stopG ?_|refine stopC ?_|refine stopR ?_)))
      (all_goals (first|omega|(rw [List.length_map];done)|(rw [List.length_map];omega)|contradiction|skip))
      exact Done'.mk ⟨.tp0, rfl, rfl⟩
    · rw [if_neg he]
      repeat' (first|with_reducible refine And.intro ?_ ?_|((with_reducible intro hc);(try simp only [zA,zB,zC,zD,zE,zF,zG,zH,zI,zJ,zK,zL,zM,zN,zO,zP,zQ,zR,zS,zT,zU,zV,zW] at hc);(first|exact absurd rfl hc|exact absurd trivial hc|(exfalso;omega)|skip))|exact Is.mk rfl rfl|((conv => whnf);first|with_reducible refine And.intro ?_ ?_|with_reducible intro hx|exact Is.mk rfl rfl|(with_reducible first|apply Val.via|apply ValH.via)|refine ifB_intro ?_ ?_|refine xA (by omega) ?_|(refine xB ?_;intro kw hk1 hk2)|refine xC (by omega) ?_|refine xD ?_|refine xE (by omega) ?_|refine xF (by omega) ?_|refine xG ?_|refine xH ?_|refine xI (by omega) ?_|refine xJ (by omega) ?_|(with_reducible refine stopA ?_)|refine Exists.intro _ (And.intro (by (first|exact vat_of rfl rfl rfl|rfl)) ?_)|refine GOp.drawn (by rfl) (by rfl) (Nat.le_of_ble_eq_true (by rfl)) (by rfl)|refine GOp.via (by rfl) ?_|refine GWP.drawY mixed _ (by kernel_rfl) (by rfl) ?_|fail|(with_reducible first|refine stopO ?_|refine stopE ?_|refine stopD ?_|refine stopW ?_|refine stopG ?_|refine stopC ?_|refine stopR ?_)))
      (all_goals (first|omega|(rw [List.length_map];done)|(rw [List.length_map];omega)|contradiction|skip))
      exact Done'.mk ⟨.tp0, rfl, rfl⟩
theorem hasPfx_call (s p : List UInt8) (hs : s.length ≤ 100000) (H : Heap) : VCall Tryd.prog 41 [roB s, roB p] H (fun x K => x = booV (p.isPrefixOf s) ∧ K = H) := by
  refine VCall.pure (by simp [nameless_roB]) (nameless_sc _) ?_
  have hpre : p.length ≤ s.length → (s.take p.length == p) = p.isPrefixOf s := fun h => by
    rw [Bool.eq_iff_iff, List.isPrefixOf_iff_prefix, beq_iff_eq, List.prefix_iff_eq_take]
    exact eq_comm
  refine VCall.go Tryd.func41 rfl ?_
  repeat' (first|with_reducible refine And.intro ?_ ?_|((with_reducible intro hc);(try simp only [zA,zB,zC,zD,zE,zF,zG,zH,zI,zJ,zK,zL,zM,zN,zO,zP,zQ,zR,zS,zT,zU,zV,zW] at hc);(first|exact absurd rfl hc|exact absurd trivial hc|(exfalso;omega)|skip))|((conv => whnf);first|with_reducible refine And.intro ?_ ?_|refine ifB_intro ?_ ?_|refine xA (by omega) ?_|(refine xB ?_;intro kw hk1 hk2)|refine xC (by omega) ?_|refine xD ?_|refine xE (by omega) ?_|refine xF (by omega) ?_|refine xG ?_|refine xH ?_|refine xI (by omega) ?_|refine xJ (by omega) ?_|(with_reducible refine stopA ?_)|refine Exists.intro _ (And.intro (by rfl) ?_)|refine GOp.via (by rfl) ?_|(with_reducible first|refine stopO ?_|refine stopE ?_|refine stopD ?_|refine stopW ?_|refine stopG ?_|refine stopC ?_|refine stopR ?_)))
  all_goals (first|omega|skip)
  · have e : VV.ro (((p.length : Int)).toNat - 0) (((s.map bV).drop (0 * 1)).take ((((p.length : Int)).toNat - 0) * 1)) = roB (s.take p.length) := by
      have := roB_slice (l := s) (z := 1) (i := 0) (j := p.length) rfl (by omega) (by omega)
      rw [Int.toNat_natCast, this, Nat.sub_zero, List.drop_zero]
    refine GCall'.mk (VCall.arg21 e ((equal_call (s.take p.length) p _).mono ?_))
    rintro _ _ ⟨rfl, rfl⟩
    rw [hpre (by omega)]
    repeat' (first|with_reducible refine And.intro ?_ ?_|((with_reducible intro hc);(try simp only [zA,zB,zC,zD,zE,zF,zG,zH,zI,zJ,zK,zL,zM,zN,zO,zP,zQ,zR,zS,zT,zU,zV,zW] at hc);(first|exact absurd rfl hc|exact absurd trivial hc|(exfalso;omega)|skip))|((conv => whnf);first|with_reducible refine And.intro ?_ ?_|refine ifB_intro ?_ ?_|refine xA (by omega) ?_|(refine xB ?_;intro kw hk1 hk2)|refine xC (by omega) ?_|refine xD ?_|refine xE (by omega) ?_|refine xF (by omega) ?_|refine xG ?_|refine xH ?_|refine xI (by omega) ?_|refine xJ (by omega) ?_|(with_reducible refine stopA ?_)|refine Exists.intro _ (And.intro (by rfl) ?_)|refine GOp.via (by rfl) ?_|(with_reducible first|refine stopO ?_|refine stopE ?_|refine stopD ?_|refine stopW ?_|refine stopG ?_|refine stopC ?_|refine stopR ?_)))
    exact Done'.mk rfl
  · have : p.isPrefixOf s = false := by
      cases hh : p.isPrefixOf s
      · rfl
      · have := (List.isPrefixOf_iff_prefix.1 hh).length_le
        omega
    rw [this]
    exact Done'.mk rfl
theorem view_rowZ {l : List UInt8} {n b : Nat} {c : Option Nat} {H : Heap} (hg : H.get b = some (.cells true (l.map bV))) (hn : n = l.length) : View H (.sl b 0 n c 1) (roB l) := by
  subst hn
  have := View.sl (H := H) (b := b) (o := 0) (n := l.length) (z := 1) (c := c) hg (by simp) (nameless_map nameless_bV l)
  rw [List.drop_zero, Nat.mul_one, List.take_of_length_le (by simp)] at this
  exact this
theorem restV_sl {N n q : Nat} {s : List UInt8} (hn : s.length = n) (h0 : n ≠ 0) (hq : q = N - n) : VV.sl 0 q n none 1 = restV N s := by
  subst hn hq
  cases s with
  | nil => exact absurd rfl h0
  | cons c r => rfl
/-- bytes.CutPrefix, of the rest of a text. -/
theorem cutPfx_call {t s p : List UInt8} {H : Heap} {b : Nat} (hs : s <:+ t) (ht : t.length ≤ 100000) (hp : p ≠ []) (h0 : H.get 0 = some (.cells true (t.map bV))) (hb : H.get b = some (.cells true (p.map bV))) : VCall Tryd.prog 27 [restV t.length s, .sl b 0 p.length none 1] H (fun v K => v = .tp [restV t.length ((skipS p s).getD s), booV (skipS p s).isSome] ∧ K = H) := by
  have hsl := hs.length_le
  have kh : ∀ (x : VV), View H x (roB s) → VCall Tryd.prog 41 [x, .sl b 0 p.length none 1] H (fun v K => v = booV (p.isPrefixOf s) ∧ K = H) := fun x hv =>
    VCall.viewed (args' := [roB s, roB p]) (Q := fun v K => v = booV (p.isPrefixOf s)) (.cons hv (.cons (view_rowZ hb rfl) .nil)) ((hasPfx_call s p (by omega) _).mono fun v K h => h.1) (fun v K e => by subst e; exact Frx.of (exact_sc _))
  have kh := kh _ (restV_view hs h0)
  unfold skipS
  cases hpf : p.isPrefixOf s with
  | false =>
    rw [hpf] at kh
    refine VCall.go Tryd.func27 rfl ?_
    cases s with
    | nil =>
      repeat' (first|with_reducible refine And.intro ?_ ?_|((with_reducible intro hc);(try simp only [zA,zB,zC,zD,zE,zF,zG,zH,zI,zJ,zK,zL,zM,zN,zO,zP,zQ,zR,zS,zT,zU,zV,zW] at hc);(first|exact absurd rfl hc|exact absurd trivial hc|(exfalso;omega)|skip))|exact Is.mk rfl rfl|((conv => whnf);first|with_reducible refine And.intro ?_ ?_|with_reducible intro hx|exact Is.mk rfl rfl|(with_reducible first|apply Val.via|apply ValH.via)|refine ifB_intro ?_ ?_|refine xA (by omega) ?_|(refine xB ?_;intro kw hk1 hk2)|refine xC (by omega) ?_|refine xD ?_|refine xE (by omega) ?_|refine xF (by omega) ?_|refine xG ?_|refine xH ?_|refine xI (by omega) ?_|refine xJ (by omega) ?_|(with_reducible refine stopA ?_)|refine Exists.intro _ (And.intro (by (first|exact vat_of rfl rfl rfl|rfl)) ?_)|refine GOp.drawn (by rfl) (by rfl) (Nat.le_of_ble_eq_true (by rfl)) (by rfl)|refine GOp.via (by rfl) ?_|refine GWP.drawY mixed _ (by kernel_rfl) (by rfl) ?_|(refine GCall.mk ((kh).mono ?_);rintro _ _ ⟨rfl,rfl⟩)|(with_reducible first|refine stopO ?_|refine stopE ?_|refine stopD ?_|refine stopW ?_|refine stopG ?_|refine stopC ?_|refine stopR ?_)))
      (all_goals (first|omega|(rw [List.length_map];done)|(rw [List.length_map];omega)|contradiction|skip))
      exact Done'.mk ⟨rfl, rfl⟩
    | cons c r =>
      repeat' (first|with_reducible refine And.intro ?_ ?_|((with_reducible intro hc);(try simp only [zA,zB,zC,zD,zE,zF,zG,zH,zI,zJ,zK,zL,zM,zN,zO,zP,zQ,zR,zS,zT,zU,zV,zW] at hc);(first|exact absurd rfl hc|exact absurd trivial hc|(exfalso;omega)|skip))|exact Is.mk rfl rfl|((conv => whnf);first|with_reducible refine And.intro ?_ ?_|with_reducible intro hx|exact Is.mk rfl rfl|(with_reducible first|apply Val.via|apply ValH.via)|refine ifB_intro ?_ ?_|refine xA (by omega) ?_|(refine xB ?_;intro kw hk1 hk2)|refine xC (by omega) ?_|refine xD ?_|refine xE (by omega) ?_|refine xF (by omega) ?_|refine xG ?_|refine xH ?_|refine xI (by omega) ?_|refine xJ (by omega) ?_|(with_reducible refine stopA ?_)|refine Exists.intro _ (And.intro (by (first|exact vat_of rfl rfl rfl|rfl)) ?_)|refine GOp.drawn (by rfl) (by rfl) (Nat.le_of_ble_eq_true (by rfl)) (by rfl)|refine GOp.via (by rfl) ?_|refine GWP.drawY mixed _ (by kernel_rfl) (by rfl) ?_|(refine GCall.mk ((kh).mono ?_);rintro _ _ ⟨rfl,rfl⟩)|(with_reducible first|refine stopO ?_|refine stopE ?_|refine stopD ?_|refine stopW ?_|refine stopG ?_|refine stopC ?_|refine stopR ?_)))
      (all_goals (first|omega|(rw [List.length_map];done)|(rw [List.length_map];omega)|contradiction|skip))
      exact Done'.mk ⟨rfl, rfl⟩
  | true =>
    rw [hpf] at kh
    have hle := (List.isPrefixOf_iff_prefix.1 hpf).length_le
    have hp0 : p.length ≠ 0 := fun e => hp (List.eq_nil_of_length_eq_zero e)
    refine VCall.go Tryd.func27 rfl ?_
    cases s with
    | nil => simp only [List.length_nil] at hle; omega
    | cons c r =>
      simp only [List.length_cons] at hle hsl
      repeat' (first|with_reducible refine And.intro ?_ ?_|((with_reducible intro hc);(try simp only [zA,zB,zC,zD,zE,zF,zG,zH,zI,zJ,zK,zL,zM,zN,zO,zP,zQ,zR,zS,zT,zU,zV,zW] at hc);(first|exact absurd rfl hc|exact absurd trivial hc|(exfalso;omega)|skip))|exact Is.mk rfl rfl|((conv => whnf);first|with_reducible refine And.intro ?_ ?_|with_reducible intro hx|exact Is.mk rfl rfl|(with_reducible first|apply Val.via|apply ValH.via)|refine ifB_intro ?_ ?_|refine xA (by omega) ?_|(refine xB ?_;intro kw hk1 hk2)|refine xC (by omega) ?_|refine xD ?_|refine xE (by omega) ?_|refine xF (by omega) ?_|refine xG ?_|refine xH ?_|refine xI (by omega) ?_|refine xJ (by omega) ?_|(with_reducible refine stopA ?_)|refine Exists.intro _ (And.intro (by (first|exact vat_of rfl rfl rfl|rfl)) ?_)|refine GOp.drawn (by rfl) (by rfl) (Nat.le_of_ble_eq_true (by rfl)) (by rfl)|refine GOp.via (by rfl) ?_|refine GWP.drawY mixed _ (by kernel_rfl) (by rfl) ?_|(refine GCall.mk ((kh).mono ?_);rintro _ _ ⟨rfl,rfl⟩)|(with_reducible first|refine stopO ?_|refine stopE ?_|refine stopD ?_|refine stopW ?_|refine stopG ?_|refine stopC ?_|refine stopR ?_)))
      (all_goals (first|omega|(rw [List.length_map];done)|(rw [List.length_map];omega)|contradiction|skip))
      by_cases hkl : p.length < r.length + 1
      · refine GOp'.slN (l := p.length) (h := r.length + 1) rfl Tryd.underlying22 (by kernel_rfl) rfl ((vb_l ⟨by omega, by omega⟩).trans (by rw [Int.toNat_natCast])) hkl ?_
        repeat' (first|with_reducible refine And.intro ?_ ?_|((with_reducible intro hc);(try simp only [zA,zB,zC,zD,zE,zF,zG,zH,zI,zJ,zK,zL,zM,zN,zO,zP,zQ,zR,zS,zT,zU,zV,zW] at hc);(first|exact absurd rfl hc|exact absurd trivial hc|(exfalso;omega)|skip))|exact Is.mk rfl rfl|((conv => whnf);first|with_reducible refine And.intro ?_ ?_|with_reducible intro hx|exact Is.mk rfl rfl|(with_reducible first|apply Val.via|apply ValH.via)|refine ifB_intro ?_ ?_|refine xA (by omega) ?_|(refine xB ?_;intro kw hk1 hk2)|refine xC (by omega) ?_|refine xD ?_|refine xE (by omega) ?_|refine xF (by omega) ?_|refine xG ?_|refine xH ?_|refine xI (by omega) ?_|refine xJ (by omega) ?_|(with_reducible refine stopA ?_)|refine Exists.intro _ (And.intro (by (first|exact vat_of rfl rfl rfl|rfl)) ?_)|refine GOp.drawn (by rfl) (by rfl) (Nat.le_of_ble_eq_true (by rfl)) (by rfl)|refine GOp.via (by rfl) ?_|refine GWP.drawY mixed _ (by kernel_rfl) (by rfl) ?_|fail|(with_reducible first|refine stopO ?_|refine stopE ?_|refine stopD ?_|refine stopW ?_|refine stopG ?_|refine stopC ?_|refine stopR ?_)))
        refine Done'.mk ⟨?_, rfl⟩
        exact congrArg (fun x => VV.tp [x, booV true]) (restV_sl (by simp) (by omega) (by omega))
      · have hke : p.length = r.length + 1 := by omega
        refine GOp'.slE (l := p.length) rfl Tryd.underlying22 (by kernel_rfl) rfl ((vb_l ⟨by omega, by omega⟩).trans (by rw [Int.toNat_natCast, hke])) (by omega) ?_
        repeat' (first|with_reducible refine And.intro ?_ ?_|((with_reducible intro hc);(try simp only [zA,zB,zC,zD,zE,zF,zG,zH,zI,zJ,zK,zL,zM,zN,zO,zP,zQ,zR,zS,zT,zU,zV,zW] at hc);(first|exact absurd rfl hc|exact absurd trivial hc|(exfalso;omega)|skip))|exact Is.mk rfl rfl|((conv => whnf);first|with_reducible refine And.intro ?_ ?_|with_reducible intro hx|exact Is.mk rfl rfl|(with_reducible first|apply Val.via|apply ValH.via)|refine ifB_intro ?_ ?_|refine xA (by omega) ?_|(refine xB ?_;intro kw hk1 hk2)|refine xC (by omega) ?_|refine xD ?_|refine xE (by omega) ?_|refine xF (by omega) ?_|refine xG ?_|refine xH ?_|refine xI (by omega) ?_|refine xJ (by omega) ?_|(with_reducible refine stopA ?_)|refine Exists.intro _ (And.intro (by (first|exact vat_of rfl rfl rfl|rfl)) ?_)|refine GOp.drawn (by rfl) (by rfl) (Nat.le_of_ble_eq_true (by rfl)) (by rfl)|refine GOp.via (by rfl) ?_|refine GWP.drawY mixed _ (by kernel_rfl) (by rfl) ?_|fail|(with_reducible first|refine stopO ?_|refine stopE ?_|refine stopD ?_|refine stopW ?_|refine stopG ?_|refine stopC ?_|refine stopR ?_)))
        refine Done'.mk ⟨?_, rfl⟩
        have hd : (c :: r).drop p.length = [] := List.drop_of_length_le (by simp; omega)
        exact congrArg (fun x => VV.tp [restV t.length x, booV true]) hd.symm
theorem skip_call {t s : List UInt8} (p : List UInt8) (hs : s <:+ t) (ht : t.length ≤ 100000) (hp : p ≠ []) (d e : Nat) : VCall Tryd.prog 13 [.ptr 1 0, strV p] ⟨rdO t s d e, 2⟩ (fun v K => v = booV (skipS p s).isSome ∧ K = ⟨rdO t ((skipS p s).getD s) d e, 2⟩) := by
  have hpz := szP p
  refine VCall.rd ?_
  have k1 : ∀ (H : Heap), H.get 0 = some (.cells true (t.map bV)) → H.get 2 = some (.cells true (p.map bV)) → VCall Tryd.prog 27 [restV t.length s, .sl 2 0 p.length none 1] H (fun v K => v = .tp [restV t.length ((skipS p s).getD s), booV (skipS p s).isSome] ∧ K = H) := fun H h0 hb => cutPfx_call hs ht hp h0 hb
  generalize hq : skipS p s = q at *
  cases q with
  | none =>
    simp only [Option.getD_none, Option.isSome_none] at k1 ⊢
    cases s with
    | nil =>
      refine VCall.go Tryd.func13 rfl ?_
      repeat' (first|with_reducible refine And.intro ?_ ?_|((with_reducible intro hc);(try simp only [zA,zB,zC,zD,zE,zF,zG,zH,zI,zJ,zK,zL,zM,zN,zO,zP,zQ,zR,zS,zT,zU,zV,zW] at hc);(first|exact absurd rfl hc|exact absurd trivial hc|(exfalso;omega)|skip))|exact Is.mk rfl rfl|((conv => whnf);first|with_reducible refine And.intro ?_ ?_|with_reducible intro hx|exact Is.mk rfl rfl|(with_reducible first|apply Val.via|apply ValH.via)|refine ifB_intro ?_ ?_|refine xA (by omega) ?_|(refine xB ?_;intro kw hk1 hk2)|refine xC (by omega) ?_|refine xD ?_|refine xE (by omega) ?_|refine xF (by omega) ?_|refine xG ?_|refine xH ?_|refine xI (by omega) ?_|refine xJ (by omega) ?_|(with_reducible refine stopA ?_)|refine Exists.intro _ (And.intro (by (first|exact vat_of rfl rfl rfl|rfl)) ?_)|refine GOp.drawn (by rfl) (by rfl) (Nat.le_of_ble_eq_true (by rfl)) (by rfl)|refine GOp.via (by rfl) ?_|refine GWP.drawY mixed _ (by kernel_rfl) (by rfl) ?_|(refine GCall.mk ((k1 _ rfl rfl).mono ?_);rintro _ _ ⟨rfl,rfl⟩)|(with_reducible first|refine stopO ?_|refine stopE ?_|refine stopD ?_|refine stopW ?_|refine stopG ?_|refine stopC ?_|refine stopR ?_)))
      (all_goals (first|omega|(rw [List.length_map];done)|(rw [List.length_map];omega)|contradiction|skip))
      exact Done'.mk ⟨.of (nameless_sc _), rfl, rfl⟩
    | cons c r =>
      refine VCall.go Tryd.func13 rfl ?_
      repeat' (first|with_reducible refine And.intro ?_ ?_|((with_reducible intro hc);(try simp only [zA,zB,zC,zD,zE,zF,zG,zH,zI,zJ,zK,zL,zM,zN,zO,zP,zQ,zR,zS,zT,zU,zV,zW] at hc);(first|exact absurd rfl hc|exact absurd trivial hc|(exfalso;omega)|skip))|exact Is.mk rfl rfl|((conv => whnf);first|with_reducible refine And.intro ?_ ?_|with_reducible intro hx|exact Is.mk rfl rfl|(with_reducible first|apply Val.via|apply ValH.via)|refine ifB_intro ?_ ?_|refine xA (by omega) ?_|(refine xB ?_;intro kw hk1 hk2)|refine xC (by omega) ?_|refine xD ?_|refine xE (by omega) ?_|refine xF (by omega) ?_|refine xG ?_|refine xH ?_|refine xI (by omega) ?_|refine xJ (by omega) ?_|(with_reducible refine stopA ?_)|refine Exists.intro _ (And.intro (by (first|exact vat_of rfl rfl rfl|rfl)) ?_)|refine GOp.drawn (by rfl) (by rfl) (Nat.le_of_ble_eq_true (by rfl)) (by rfl)|refine GOp.via (by rfl) ?_|refine GWP.drawY mixed _ (by kernel_rfl) (by rfl) ?_|(refine GCall.mk ((k1 _ rfl rfl).mono ?_);rintro _ _ ⟨rfl,rfl⟩)|(with_reducible first|refine stopO ?_|refine stopE ?_|refine stopD ?_|refine stopW ?_|refine stopG ?_|refine stopC ?_|refine stopR ?_)))
      (all_goals (first|omega|(rw [List.length_map];done)|(rw [List.length_map];omega)|contradiction|skip))
      exact Done'.mk ⟨.of (nameless_sc _), rfl, rfl⟩
  | some z =>
    simp only [Option.getD_some, Option.isSome_some] at k1 ⊢
    cases s with
    | nil =>
      refine VCall.go Tryd.func13 rfl ?_
      cases z with
      | nil =>
        repeat' (first|with_reducible refine And.intro ?_ ?_|((with_reducible intro hc);(try simp only [zA,zB,zC,zD,zE,zF,zG,zH,zI,zJ,zK,zL,zM,zN,zO,zP,zQ,zR,zS,zT,zU,zV,zW] at hc);(first|exact absurd rfl hc|exact absurd trivial hc|(exfalso;omega)|skip))|exact Is.mk rfl rfl|((conv => whnf);first|with_reducible refine And.intro ?_ ?_|with_reducible intro hx|exact Is.mk rfl rfl|(with_reducible first|apply Val.via|apply ValH.via)|refine ifB_intro ?_ ?_|refine xA (by omega) ?_|(refine xB ?_;intro kw hk1 hk2)|refine xC (by omega) ?_|refine xD ?_|refine xE (by omega) ?_|refine xF (by omega) ?_|refine xG ?_|refine xH ?_|refine xI (by omega) ?_|refine xJ (by omega) ?_|(with_reducible refine stopA ?_)|refine Exists.intro _ (And.intro (by (first|exact vat_of rfl rfl rfl|rfl)) ?_)|refine GOp.drawn (by rfl) (by rfl) (Nat.le_of_ble_eq_true (by rfl)) (by rfl)|refine GOp.via (by rfl) ?_|refine GWP.drawY mixed _ (by kernel_rfl) (by rfl) ?_|(refine GCall.mk ((k1 _ rfl rfl).mono ?_);rintro _ _ ⟨rfl,rfl⟩)|(with_reducible first|refine stopO ?_|refine stopE ?_|refine stopD ?_|refine stopW ?_|refine stopG ?_|refine stopC ?_|refine stopR ?_)))
        (all_goals (first|omega|(rw [List.length_map];done)|(rw [List.length_map];omega)|contradiction|skip))
        exact Done'.mk ⟨.of (nameless_sc _), rfl, rfl⟩
      | cons c2 r2 =>
        have := skipS_len hq
        simp only [List.length_nil, List.length_cons] at this
        omega
    | cons c r =>
      cases z with
      | nil =>
        refine VCall.go Tryd.func13 rfl ?_
        repeat' (first|with_reducible refine And.intro ?_ ?_|((with_reducible intro hc);(try simp only [zA,zB,zC,zD,zE,zF,zG,zH,zI,zJ,zK,zL,zM,zN,zO,zP,zQ,zR,zS,zT,zU,zV,zW] at hc);(first|exact absurd rfl hc|exact absurd trivial hc|(exfalso;omega)|skip))|exact Is.mk rfl rfl|((conv => whnf);first|with_reducible refine And.intro ?_ ?_|with_reducible intro hx|exact Is.mk rfl rfl|(with_reducible first|apply Val.via|apply ValH.via)|refine ifB_intro ?_ ?_|refine xA (by omega) ?_|(refine xB ?_;intro kw hk1 hk2)|refine xC (by omega) ?_|refine xD ?_|refine xE (by omega) ?_|refine xF (by omega) ?_|refine xG ?_|refine xH ?_|refine xI (by omega) ?_|refine xJ (by omega) ?_|(with_reducible refine stopA ?_)|refine Exists.intro _ (And.intro (by (first|exact vat_of rfl rfl rfl|rfl)) ?_)|refine GOp.drawn (by rfl) (by rfl) (Nat.le_of_ble_eq_true (by rfl)) (by rfl)|refine GOp.via (by rfl) ?_|refine GWP.drawY mixed _ (by kernel_rfl) (by rfl) ?_|(refine GCall.mk ((k1 _ rfl rfl).mono ?_);rintro _ _ ⟨rfl,rfl⟩)|(with_reducible first|refine stopO ?_|refine stopE ?_|refine stopD ?_|refine stopW ?_|refine stopG ?_|refine stopC ?_|refine stopR ?_)))
        (all_goals (first|omega|(rw [List.length_map];done)|(rw [List.length_map];omega)|contradiction|skip))
        exact Done'.mk ⟨.of (nameless_sc _), rfl, rfl⟩
      | cons c2 r2 =>
        refine VCall.go Tryd.func13 rfl ?_
        repeat' (first|with_reducible refine And.intro ?_ ?_|((with_reducible intro hc);(try simp only [zA,zB,zC,zD,zE,zF,zG,zH,zI,zJ,zK,zL,zM,zN,zO,zP,zQ,zR,zS,zT,zU,zV,zW] at hc);(first|exact absurd rfl hc|exact absurd trivial hc|(exfalso;omega)|skip))|exact Is.mk rfl rfl|((conv => whnf);first|with_reducible refine And.intro ?_ ?_|with_reducible intro hx|exact Is.mk rfl rfl|(with_reducible first|apply Val.via|apply ValH.via)|refine ifB_intro ?_ ?_|refine xA (by omega) ?_|(refine xB ?_;intro kw hk1 hk2)|refine xC (by omega) ?_|refine xD ?_|refine xE (by omega) ?_|refine xF (by omega) ?_|refine xG ?_|refine xH ?_|refine xI (by omega) ?_|refine xJ (by omega) ?_|(with_reducible refine stopA ?_)|refine Exists.intro _ (And.intro (by (first|exact vat_of rfl rfl rfl|rfl)) ?_)|refine GOp.drawn (by rfl) (by rfl) (Nat.le_of_ble_eq_true (by rfl)) (by rfl)|refine GOp.via (by rfl) ?_|refine GWP.drawY mixed _ (by kernel_rfl) (by rfl) ?_|(refine GCall.mk ((k1 _ rfl rfl).mono ?_);rintro _ _ ⟨rfl,rfl⟩)|(with_reducible first|refine stopO ?_|refine stopE ?_|refine stopD ?_|refine stopW ?_|refine stopG ?_|refine stopC ?_|refine stopR ?_)))
        (all_goals (first|omega|(rw [List.length_map];done)|(rw [List.length_map];omega)|contradiction|skip))
        exact Done'.mk ⟨.of (nameless_sc _), rfl, rfl⟩
end Go.Proofs.YthjfobafdclafaaDoor

/- Blanks that go, a token that is taken, walked. -/
namespace Go.Proofs.YthjfobafdclafaaDoor
open Go Go.RowKit
set_option linter.unusedSimpArgs false
set_option linter.unusedVariables false
set_option maxRecDepth 100000
set_option maxHeartbeats 8000000
def blankRow : List VV := (List.range 256).map fun k => booV (k == 32 || k == 9)
theorem blankRow_at (c : UInt8) : blankRow[c.toNat]? = some (booV (blB c)) := by
  have hc := u8_lt c
  unfold blankRow
  rw [List.getElem?_map, List.getElem?_range hc]
  simp only [Option.map_some, Option.some.injEq]
  refine congrArg booV ?_
  unfold blB
  rw [Bool.eq_iff_iff]
  simp only [Bool.or_eq_true, beq_iff_eq, ← UInt8.toNat_inj]
  rfl
def isSet (x : Option (VV × Heap)) : Bool := match x with
  | some (.tp [.ag vs, .sc (.bool true)], _) => veqL vs blankRow
  | _ => false
theorem mkset_call (H : Heap) : VCall Tryd.prog 36 [strV [32, 9]] H (fun v K => v = .tp [.ag blankRow, booV true] ∧ K = H) := by
  have h : isSet (vcallW Tryd.prog (vcode Tryd.prog 80) 36 [strV [32, 9]] ⟨[], 0⟩) = true := by kernel_rfl
  unfold isSet at h
  split at h
  · rename_i vs K hr
    have e := veqL_eq h
    subst e
    refine (VCall.apart (Q := fun x K' => x = .tp [.ag blankRow, booV true] ∧ K' = K) (by simp [nameless_strV]) (VCall.run mixed 80 hr) (fun v K e => ?_)).mono ?_
    · rw [e.1]
      refine exact_tp ?_
      intro v hv
      simp only [List.mem_cons, List.not_mem_nil, or_false] at hv
      rcases hv with rfl | rfl
      · intro w w' Z Z' ρ ρ' y hy
        cases hy with
        | @ag _ cs h1 r1 =>
          refine .ag h1 fun i u c hu hc => ?_
          have g := r1 i u c hu hc
          obtain ⟨k, _, rfl⟩ := List.mem_map.1 (List.mem_of_getElem? hu)
          exact exact_sc _ _ _ _ _ _ _ _ g
      · exact exact_sc _
    · rintro v K' ⟨⟨_, e, _⟩, e2⟩
      exact ⟨e, e2⟩
  · simp at h
theorem vagg_bool : vagg Tryd.prog 4 = some false := by kernel_rfl
theorem addf {q a z i : Nat} (hq : q = 0) (hz : z = 1) (h : a = i) : q + a * z = i := by subst hq hz h; omega
theorem RenV.slQ {R : List (Nat × Nat)} {t b o o' n n' z : Nat} {c : Option Nat} (hb : b < t) (ho : o = o') (hn : n = n') : RenV R t (.sl b o n c z) (.sl b o' n' c z) := by
  subst ho hn
  exact RenV.slL hb
theorem suf_at {t r : List UInt8} {c : UInt8} (h : c :: r <:+ t) : t[t.length - (r.length + 1)]? = some c := by
  obtain ⟨h1, h2⟩ := suf_drop h
  simp only [List.length_cons] at h2
  have := congrArg (fun l => l[0]?) h2
  simpa using this
theorem leftN_call {t s : List UInt8} (hs : s <:+ t) (ht : t.length ≤ 100000) (a : VObj) : VCall Tryd.prog 37 [restV t.length s, .ptr 2 0] ⟨[(2, .cells true blankRow), (1, a), (0, .cells true (t.map bV))], 3⟩ (fun v K => v = (match blS s with | [] => .sc (.slice none 0 0) | c :: r => restV t.length (c :: r)) ∧ K = ⟨[(2, .cells true blankRow), (1, a), (0, .cells true (t.map bV))], 3⟩) := by
  have hrow := blankRow_at
  generalize blankRow = row at *
  refine VCall.go Tryd.func37 rfl ?_
  cases s with
  | nil =>
    repeat' (first|with_reducible refine And.intro ?_ ?_|((with_reducible intro hc);(try simp only [zA,zB,zC,zD,zE,zF,zG,zH,zI,zJ,zK,zL,zM,zN,zO,zP,zQ,zR,zS,zT,zU,zV,zW] at hc);(first|exact absurd rfl hc|exact absurd trivial hc|(exfalso;omega)|skip))|exact Is.mk rfl rfl|((conv => whnf);first|with_reducible refine And.intro ?_ ?_|with_reducible intro hx|exact Is.mk rfl rfl|(with_reducible first|apply Val.via|apply ValH.via)|refine ifB_intro ?_ ?_|refine xA (by omega) ?_|(refine xB ?_;intro kw hk1 hk2)|refine xC (by omega) ?_|refine xD ?_|refine xE (by omega) ?_|refine xF (by omega) ?_|refine xG ?_|refine xH ?_|refine xI (by omega) ?_|refine xJ (by omega) ?_|(with_reducible refine stopA ?_)|refine Exists.intro _ (And.intro (by (first|exact vat_of rfl rfl rfl|rfl)) ?_)|refine GOp.drawn (by rfl) (by rfl) (Nat.le_of_ble_eq_true (by rfl)) (by rfl)|refine GOp.via (by rfl) ?_|refine GWP.drawY mixed _ (by kernel_rfl) (by rfl) ?_|fail|(with_reducible first|refine stopO ?_|refine stopE ?_|refine stopD ?_|refine stopW ?_|refine stopG ?_|refine stopC ?_|refine stopR ?_)))
    (refine GWP'.mk (GWP.loopB [] (fun (i : Nat) => i = 0) (fun i => [(0, .ro 0 [])]) (fun i => []) 3 (fun i => 0) 0 rfl ?_); (conv => whnf); refine And.intro ?_ ?_)
    · focus (refine KeptA.of [] rfl rfl (by repeat' (first|exact trivial|refine And.intro rfl ?_)) rfl ?_ ?_;all_goals (repeat' (first|exact trivial|(refine And.intro ?_ ?_)|(refine Exists.intro _ (And.intro rfl ?_))|(refine RenO.opt ?_)|(refine RenO.toOpt ?_)|(refine RenO.cells ?_)|exact RenO.defs|exact RenL.nil|(refine RenL.cons ?_ ?_)|(first|exact RenV.of (nameless_ro (by simp))|(with_reducible exact RenV.sc)|exact RenV.gsN|exact RenV.gsZ|exact RenV.gsL (by decide)|exact RenV.slL (by decide)|((first|refine RenV.gsE (by (first|exact mhA|exact mhB|exact mhC|(simp;done))) ?_|refine RenV.eq (scI_eq ?_) (nameless_sc _));(first|rfl|omega|(simp only [List.length_append,List.length_cons,List.length_nil,List.length_map,List.length_take,List.length_drop] <;> omega)|(simp only <;> omega)|(simp <;> omega)))|exact RenV.undef)|(with_unfolding_all exact (rfl : (_ : VObj) = _)))))
    rintro i rfl
    repeat' (first|with_reducible refine And.intro ?_ ?_|((with_reducible intro hc);(try simp only [zA,zB,zC,zD,zE,zF,zG,zH,zI,zJ,zK,zL,zM,zN,zO,zP,zQ,zR,zS,zT,zU,zV,zW] at hc);(first|exact absurd rfl hc|exact absurd trivial hc|(exfalso;omega)|skip))|exact Is.mk rfl rfl|((conv => whnf);first|with_reducible refine And.intro ?_ ?_|with_reducible intro hx|exact Is.mk rfl rfl|(with_reducible first|apply Val.via|apply ValH.via)|refine ifB_intro ?_ ?_|refine xA (by omega) ?_|(refine xB ?_;intro kw hk1 hk2)|refine xC (by omega) ?_|refine xD ?_|refine xE (by omega) ?_|refine xF (by omega) ?_|refine xG ?_|refine xH ?_|refine xI (by omega) ?_|refine xJ (by omega) ?_|(with_reducible refine stopA ?_)|refine Exists.intro _ (And.intro (by (first|exact vat_of rfl rfl rfl|rfl)) ?_)|refine GOp.drawn (by rfl) (by rfl) (Nat.le_of_ble_eq_true (by rfl)) (by rfl)|refine GOp.via (by rfl) ?_|refine GWP.drawY mixed _ (by kernel_rfl) (by rfl) ?_|fail|(with_reducible first|refine stopO ?_|refine stopE ?_|refine stopD ?_|refine stopW ?_|refine stopG ?_|refine stopC ?_|refine stopR ?_)))
    (all_goals (first|omega|(rw [List.length_map];done)|(rw [List.length_map];omega)|contradiction|skip))
    exact Done'.mk ⟨rfl, rfl⟩
  | cons c0 r0 =>
    repeat' (first|with_reducible refine And.intro ?_ ?_|((with_reducible intro hc);(try simp only [zA,zB,zC,zD,zE,zF,zG,zH,zI,zJ,zK,zL,zM,zN,zO,zP,zQ,zR,zS,zT,zU,zV,zW] at hc);(first|exact absurd rfl hc|exact absurd trivial hc|(exfalso;omega)|skip))|exact Is.mk rfl rfl|((conv => whnf);first|with_reducible refine And.intro ?_ ?_|with_reducible intro hx|exact Is.mk rfl rfl|(with_reducible first|apply Val.via|apply ValH.via)|refine ifB_intro ?_ ?_|refine xA (by omega) ?_|(refine xB ?_;intro kw hk1 hk2)|refine xC (by omega) ?_|refine xD ?_|refine xE (by omega) ?_|refine xF (by omega) ?_|refine xG ?_|refine xH ?_|refine xI (by omega) ?_|refine xJ (by omega) ?_|(with_reducible refine stopA ?_)|refine Exists.intro _ (And.intro (by (first|exact vat_of rfl rfl rfl|rfl)) ?_)|refine GOp.drawn (by rfl) (by rfl) (Nat.le_of_ble_eq_true (by rfl)) (by rfl)|refine GOp.via (by rfl) ?_|refine GWP.drawY mixed _ (by kernel_rfl) (by rfl) ?_|fail|(with_reducible first|refine stopO ?_|refine stopE ?_|refine stopD ?_|refine stopW ?_|refine stopG ?_|refine stopC ?_|refine stopR ?_)))
    (refine GWP'.mk (GWP.loopB [] (fun (m : List UInt8) => blS (c0 :: r0) = blS m ∧ m <:+ t) (fun m => [(0, restV t.length m)]) (fun m => []) 3 (fun m => m.length) (c0 :: r0) ⟨rfl, hs⟩ ?_); (conv => whnf); refine And.intro ?_ ?_)
    · focus (refine KeptA.of [] rfl rfl (by repeat' (first|exact trivial|refine And.intro rfl ?_)) rfl ?_ ?_;all_goals (repeat' (first|exact trivial|(refine And.intro ?_ ?_)|(refine Exists.intro _ (And.intro rfl ?_))|(refine RenO.opt ?_)|(refine RenO.toOpt ?_)|(refine RenO.cells ?_)|exact RenO.defs|exact RenL.nil|(refine RenL.cons ?_ ?_)|(first|exact RenV.slQ (Nat.zero_lt_succ _) rfl rfl|(with_reducible exact RenV.sc)|exact RenV.gsN|exact RenV.gsZ|exact RenV.gsL (by decide)|exact RenV.slL (by decide)|((first|refine RenV.gsE (by (first|exact mhA|exact mhB|exact mhC|(simp;done))) ?_|refine RenV.eq (scI_eq ?_) (nameless_sc _));(first|rfl|omega|(simp only [List.length_append,List.length_cons,List.length_nil,List.length_map,List.length_take,List.length_drop] <;> omega)|(simp only <;> omega)|(simp <;> omega)))|exact RenV.undef)|(with_unfolding_all exact (rfl : (_ : VObj) = _)))))
    rintro m ⟨h1, h2⟩
    cases m with
    | nil =>
      rw [h1]
      repeat' (first|with_reducible refine And.intro ?_ ?_|((with_reducible intro hc);(try simp only [zA,zB,zC,zD,zE,zF,zG,zH,zI,zJ,zK,zL,zM,zN,zO,zP,zQ,zR,zS,zT,zU,zV,zW] at hc);(first|exact absurd rfl hc|exact absurd trivial hc|(exfalso;omega)|skip))|exact Is.mk rfl rfl|((conv => whnf);first|with_reducible refine And.intro ?_ ?_|with_reducible intro hx|exact Is.mk rfl rfl|(with_reducible first|apply Val.via|apply ValH.via)|refine ifB_intro ?_ ?_|refine xA (by omega) ?_|(refine xB ?_;intro kw hk1 hk2)|refine xC (by omega) ?_|refine xD ?_|refine xE (by omega) ?_|refine xF (by omega) ?_|refine xG ?_|refine xH ?_|refine xI (by omega) ?_|refine xJ (by omega) ?_|(with_reducible refine stopA ?_)|refine Exists.intro _ (And.intro (by (first|exact vat_of rfl rfl rfl|rfl)) ?_)|refine GOp.drawn (by rfl) (by rfl) (Nat.le_of_ble_eq_true (by rfl)) (by rfl)|refine GOp.via (by rfl) ?_|refine GWP.drawY mixed _ (by kernel_rfl) (by rfl) ?_|fail|(with_reducible first|refine stopO ?_|refine stopE ?_|refine stopD ?_|refine stopW ?_|refine stopG ?_|refine stopC ?_|refine stopR ?_)))
      (all_goals (first|omega|(rw [List.length_map];done)|(rw [List.length_map];omega)|contradiction|skip))
      exact Done'.mk ⟨rfl, rfl⟩
    | cons c r =>
      have hix := suf_at h2
      have hc := u8_lt c
      have hr := hrow c
      have hml := h2.length_le
      simp only [List.length_cons] at hml
      cases hb : blB c with
      | false =>
        rw [hb] at hr
        have hbl : blS (c :: r) = c :: r := by unfold blS; rw [List.dropWhile_cons, if_neg (by rw [hb]; simp)]
        rw [h1, hbl]
        repeat' (first|with_reducible refine And.intro ?_ ?_|((with_reducible intro hc);(try simp only [zA,zB,zC,zD,zE,zF,zG,zH,zI,zJ,zK,zL,zM,zN,zO,zP,zQ,zR,zS,zT,zU,zV,zW] at hc);(first|exact absurd rfl hc|exact absurd trivial hc|(exfalso;omega)|skip))|exact Is.mk rfl rfl|((conv => whnf);first|with_reducible refine And.intro ?_ ?_|with_reducible intro hx|exact Is.mk rfl rfl|(with_reducible first|apply Val.via|apply ValH.via)|refine ifB_intro ?_ ?_|refine xA (by omega) ?_|(refine xB ?_;intro kw hk1 hk2)|refine xC (by omega) ?_|refine xD ?_|refine xE (by omega) ?_|refine xF (by omega) ?_|refine xG ?_|refine xH ?_|refine xI (by omega) ?_|refine xJ (by omega) ?_|(with_reducible refine stopA ?_)|refine Exists.intro _ (And.intro (by (first|exact vat_of vagg_u8 (map_at hix) (Nat.add_zero _)|exact vat_of vagg_bool hr (addf rfl rfl (by omega))|rfl)) ?_)|refine GOp.drawn (by rfl) (by rfl) (Nat.le_of_ble_eq_true (by rfl)) (by rfl)|refine GOp.via (by rfl) ?_|refine GWP.drawY mixed _ (by kernel_rfl) (by rfl) ?_|(refine GCall.mk (VCall.inl Tryd.func45 rfl ?_))|(with_reducible first|refine stopO ?_|refine stopE ?_|refine stopD ?_|refine stopW ?_|refine stopG ?_|refine stopC ?_|refine stopR ?_)))
        (all_goals (first|omega|(rw [List.length_map];done)|(rw [List.length_map];omega)|contradiction|skip))
        exact Done'.mk ⟨rfl, rfl⟩
      | true =>
        rw [hb] at hr
        have hbl : blS (c :: r) = blS r := by unfold blS; rw [List.dropWhile_cons, if_pos hb]
        rw [hbl] at h1
        repeat' (first|with_reducible refine And.intro ?_ ?_|((with_reducible intro hc);(try simp only [zA,zB,zC,zD,zE,zF,zG,zH,zI,zJ,zK,zL,zM,zN,zO,zP,zQ,zR,zS,zT,zU,zV,zW] at hc);(first|exact absurd rfl hc|exact absurd trivial hc|(exfalso;omega)|skip))|exact Is.mk rfl rfl|((conv => whnf);first|with_reducible refine And.intro ?_ ?_|with_reducible intro hx|exact Is.mk rfl rfl|(with_reducible first|apply Val.via|apply ValH.via)|refine ifB_intro ?_ ?_|refine xA (by omega) ?_|(refine xB ?_;intro kw hk1 hk2)|refine xC (by omega) ?_|refine xD ?_|refine xE (by omega) ?_|refine xF (by omega) ?_|refine xG ?_|refine xH ?_|refine xI (by omega) ?_|refine xJ (by omega) ?_|(with_reducible refine stopA ?_)|refine Exists.intro _ (And.intro (by (first|exact vat_of vagg_u8 (map_at hix) (Nat.add_zero _)|exact vat_of vagg_bool hr (addf rfl rfl (by omega))|rfl)) ?_)|refine GOp.drawn (by rfl) (by rfl) (Nat.le_of_ble_eq_true (by rfl)) (by rfl)|refine GOp.via (by rfl) ?_|refine GWP.drawY mixed _ (by kernel_rfl) (by rfl) ?_|(refine GCall.mk (VCall.inl Tryd.func45 rfl ?_))|(with_reducible first|refine stopO ?_|refine stopE ?_|refine stopD ?_|refine stopW ?_|refine stopG ?_|refine stopC ?_|refine stopR ?_)))
        (all_goals (first|omega|(rw [List.length_map];done)|(rw [List.length_map];omega)|contradiction|skip))
        cases r with
        | nil =>
          refine GOp'.slE (l := 1) rfl Tryd.underlying22 (by kernel_rfl) rfl (vb_l ⟨by omega, by simp⟩) (by omega) ?_
          repeat' (first|with_reducible refine And.intro ?_ ?_|((with_reducible intro hc);(try simp only [zA,zB,zC,zD,zE,zF,zG,zH,zI,zJ,zK,zL,zM,zN,zO,zP,zQ,zR,zS,zT,zU,zV,zW] at hc);(first|exact absurd rfl hc|exact absurd trivial hc|(exfalso;omega)|skip))|exact Is.mk rfl rfl|((conv => whnf);first|with_reducible refine And.intro ?_ ?_|with_reducible intro hx|exact Is.mk rfl rfl|(with_reducible first|apply Val.via|apply ValH.via)|refine ifB_intro ?_ ?_|refine xA (by omega) ?_|(refine xB ?_;intro kw hk1 hk2)|refine xC (by omega) ?_|refine xD ?_|refine xE (by omega) ?_|refine xF (by omega) ?_|refine xG ?_|refine xH ?_|refine xI (by omega) ?_|refine xJ (by omega) ?_|(with_reducible refine stopA ?_)|refine Exists.intro _ (And.intro (by (first|exact vat_of rfl rfl rfl|rfl)) ?_)|refine GOp.drawn (by rfl) (by rfl) (Nat.le_of_ble_eq_true (by rfl)) (by rfl)|refine GOp.via (by rfl) ?_|refine GWP.drawY mixed _ (by kernel_rfl) (by rfl) ?_|fail|(with_reducible first|refine stopO ?_|refine stopE ?_|refine stopD ?_|refine stopW ?_|refine stopG ?_|refine stopC ?_|refine stopR ?_)))
          focus (refine Done'.mk ⟨([] : List UInt8),⟨h1,List.nil_suffix⟩,by simp,KeptA.of [] rfl rfl (by repeat' (first|exact trivial|refine And.intro rfl ?_)) rfl ?_ ?_⟩;all_goals (repeat' (first|exact trivial|(refine And.intro ?_ ?_)|(refine Exists.intro _ (And.intro rfl ?_))|(refine RenO.opt ?_)|(refine RenO.toOpt ?_)|(refine RenO.cells ?_)|exact RenO.defs|exact RenL.nil|(refine RenL.cons ?_ ?_)|(first|exact RenV.of (nameless_ro (by simp))|(with_reducible exact RenV.sc)|exact RenV.gsN|exact RenV.gsZ|exact RenV.gsL (by decide)|exact RenV.slL (by decide)|((first|refine RenV.gsE (by (first|exact mhA|exact mhB|exact mhC|(simp;done))) ?_|refine RenV.eq (scI_eq ?_) (nameless_sc _));(first|rfl|omega|(simp only [List.length_append,List.length_cons,List.length_nil,List.length_map,List.length_take,List.length_drop] <;> omega)|(simp only <;> omega)|(simp <;> omega)))|exact RenV.undef)|(with_unfolding_all exact (rfl : (_ : VObj) = _)))))
        | cons c2 r2 =>
          have hs2 : c2 :: r2 <:+ t := (List.suffix_cons c (c2 :: r2)).trans h2
          refine GOp'.slN (l := 1) (h := (c2 :: r2).length + 1) rfl Tryd.underlying22 (by kernel_rfl) rfl (vb_l ⟨by omega, by omega⟩) (by simp) ?_
          repeat' (first|with_reducible refine And.intro ?_ ?_|((with_reducible intro hc);(try simp only [zA,zB,zC,zD,zE,zF,zG,zH,zI,zJ,zK,zL,zM,zN,zO,zP,zQ,zR,zS,zT,zU,zV,zW] at hc);(first|exact absurd rfl hc|exact absurd trivial hc|(exfalso;omega)|skip))|exact Is.mk rfl rfl|((conv => whnf);first|with_reducible refine And.intro ?_ ?_|with_reducible intro hx|exact Is.mk rfl rfl|(with_reducible first|apply Val.via|apply ValH.via)|refine ifB_intro ?_ ?_|refine xA (by omega) ?_|(refine xB ?_;intro kw hk1 hk2)|refine xC (by omega) ?_|refine xD ?_|refine xE (by omega) ?_|refine xF (by omega) ?_|refine xG ?_|refine xH ?_|refine xI (by omega) ?_|refine xJ (by omega) ?_|(with_reducible refine stopA ?_)|refine Exists.intro _ (And.intro (by (first|exact vat_of rfl rfl rfl|rfl)) ?_)|refine GOp.drawn (by rfl) (by rfl) (Nat.le_of_ble_eq_true (by rfl)) (by rfl)|refine GOp.via (by rfl) ?_|refine GWP.drawY mixed _ (by kernel_rfl) (by rfl) ?_|fail|(with_reducible first|refine stopO ?_|refine stopE ?_|refine stopD ?_|refine stopW ?_|refine stopG ?_|refine stopC ?_|refine stopR ?_)))
          focus (refine Done'.mk ⟨(c2 :: r2),⟨h1,hs2⟩,by simp,KeptA.of [] rfl rfl (by repeat' (first|exact trivial|refine And.intro rfl ?_)) rfl ?_ ?_⟩;all_goals (repeat' (first|exact trivial|(refine And.intro ?_ ?_)|(refine Exists.intro _ (And.intro rfl ?_))|(refine RenO.opt ?_)|(refine RenO.toOpt ?_)|(refine RenO.cells ?_)|exact RenO.defs|exact RenL.nil|(refine RenL.cons ?_ ?_)|(first|exact RenV.slQ (Nat.zero_lt_succ _) (by simp only [List.length_cons] at hml ⊢;omega) (by simp)|(with_reducible exact RenV.sc)|exact RenV.gsN|exact RenV.gsZ|exact RenV.gsL (by decide)|exact RenV.slL (by decide)|((first|refine RenV.gsE (by (first|exact mhA|exact mhB|exact mhC|(simp;done))) ?_|refine RenV.eq (scI_eq ?_) (nameless_sc _));(first|rfl|omega|(simp only [List.length_append,List.length_cons,List.length_nil,List.length_map,List.length_take,List.length_drop] <;> omega)|(simp only <;> omega)|(simp <;> omega)))|exact RenV.undef)|(with_unfolding_all exact (rfl : (_ : VObj) = _)))))
end Go.Proofs.YthjfobafdclafaaDoor

/- blanks and token of the reader, walked. -/
namespace Go.Proofs.YthjfobafdclafaaDoor
open Go Go.RowKit
set_option linter.unusedSimpArgs false
set_option linter.unusedVariables false
set_option maxRecDepth 100000
set_option maxHeartbeats 8000000
theorem setRun_all {α : Type} {us l : List α} (h : us.length = l.length) : setRun us 0 l = l := by
  apply List.ext_getElem?
  intro i
  rw [getElem?_setRun l us 0 i (by omega)]
  split
  · simp
  · rename_i hh
    rw [List.getElem?_eq_none (by omega), List.getElem?_eq_none (by omega)]
theorem GOp.stW {o : Oper} {ts : List VV} {H : Heap} {K : VV → Heap → Prop} {b : Nat} {us vs : List VV} {a x : Operand} {t : TypeId} {n : Nat} (hz : vsize Tryd.prog t = some n) (ho : o.op = .store t a x) (ha : veval ts a = .ptr b 0) (hx : veval ts x = .ag vs) (hg : H.get b = some (.cells true us)) (hu : us.length = n) (hv : vs.length = n) (h1 : vs.all VV.one = true) (k : K (.tp []) (H.set b (.cells true vs))) : GOp Tryd.prog o ts H K := by
  refine .via (vop_store ho (H' := H.set b (.cells true vs)) ?_) k
  have h2 : Nat.ble (0 + vs.length) us.length = true := Nat.ble_eq_true_of_le (by omega)
  have h3 : Nat.beq vs.length n = true := by rw [hv]; exact Nat.beq_refl _
  rw [ha, hx]
  simp only [vstore, hg, cellsOf, h1, hz, h3, h2, Bool.and_self, setRun_all (hu.trans hv.symm)]
theorem trimL_call {t s : List UInt8} (hs : s <:+ t) (ht : t.length ≤ 100000) (d e : Nat) : VCall Tryd.prog 24 [restV t.length s, strV [32, 9]] ⟨rdO t s d e, 2⟩ (fun v K => v = restV t.length (blS s) ∧ K = ⟨rdO t s d e, 3⟩) := by
  refine VCall.post (Q := fun v K => (v = restV t.length (blS s) ∨ (v = .sc (.slice none 0 0) ∧ blS s = [])) ∧ K.next ≤ 3 ∧ K.get 1 = some (rdC t.length s d e) ∧ K.get 0 = some (.cells true (t.map bV))) ?_ ?_
  · have hL := leftN_call hs ht (rdC t.length s d e)
    have hM := fun H => mkset_call H
    have hlen : blankRow.length = 256 := by simp [blankRow]
    have hone : blankRow.all VV.one = true := by unfold blankRow; simp [VV.one, booV]
    generalize blankRow = row at *
    cases s with
    | nil =>
      refine VCall.go Tryd.func24 rfl ?_
      repeat' (first|with_reducible refine And.intro ?_ ?_|((with_reducible intro hc);(try simp only [zA,zB,zC,zD,zE,zF,zG,zH,zI,zJ,zK,zL,zM,zN,zO,zP,zQ,zR,zS,zT,zU,zV,zW] at hc);(first|exact absurd rfl hc|exact absurd trivial hc|(exfalso;omega)|skip))|exact Is.mk rfl rfl|((conv => whnf);first|with_reducible refine And.intro ?_ ?_|with_reducible intro hx|exact Is.mk rfl rfl|(with_reducible first|apply Val.via|apply ValH.via)|refine ifB_intro ?_ ?_|refine xA (by omega) ?_|(refine xB ?_;intro kw hk1 hk2)|refine xC (by omega) ?_|refine xD ?_|refine xE (by omega) ?_|refine xF (by omega) ?_|refine xG ?_|refine xH ?_|refine xI (by omega) ?_|refine xJ (by omega) ?_|(with_reducible refine stopA ?_)|refine Exists.intro _ (And.intro (by (first|exact vat_of rfl rfl rfl|rfl)) ?_)|refine GOp.drawn (by rfl) (by rfl) (Nat.le_of_ble_eq_true (by rfl)) (by rfl)|refine GOp.via (by rfl) ?_|refine GWP.drawY mixed _ (by kernel_rfl) (by rfl) ?_|fail|(with_reducible first|refine stopO ?_|refine stopE ?_|refine stopD ?_|refine stopW ?_|refine stopG ?_|refine stopC ?_|refine stopR ?_)))
      (all_goals (first|omega|(rw [List.length_map];done)|(rw [List.length_map];omega)|contradiction|skip))
      exact Done'.mk ⟨.inr ⟨rfl, rfl⟩, Nat.le_succ 2, rfl, rfl⟩
    | cons c0 r0 =>
      refine VCall.go Tryd.func24 rfl ?_
      generalize hz : blS (c0 :: r0) = z at *
      cases z with
      | nil =>
        repeat' (first|with_reducible refine And.intro ?_ ?_|((with_reducible intro hc);(try simp only [zA,zB,zC,zD,zE,zF,zG,zH,zI,zJ,zK,zL,zM,zN,zO,zP,zQ,zR,zS,zT,zU,zV,zW] at hc);(first|exact absurd rfl hc|exact absurd trivial hc|(exfalso;omega)|skip))|((conv => whnf);first|with_reducible refine And.intro ?_ ?_|refine ifB_intro ?_ ?_|refine xA (by omega) ?_|(refine xB ?_;intro kw hk1 hk2)|refine xC (by omega) ?_|refine xD ?_|refine xE (by omega) ?_|refine xF (by omega) ?_|refine xG ?_|refine xH ?_|refine xI (by omega) ?_|refine xJ (by omega) ?_|(with_reducible refine stopA ?_)|refine Exists.intro _ (And.intro (by rfl) ?_)|(refine GOp.stW (n := 256) (vs := row) (by kernel_rfl) (by rfl) (by rfl) (by rfl) (by rfl) (by rfl) hlen hone ?_)|refine GOp.via (by rfl) ?_|(with_reducible first|refine stopO ?_|refine stopE ?_|refine stopD ?_|refine stopW ?_|refine stopG ?_)|(first|(refine GCall.mk ((hM _).mono ?_);rintro _ _ ⟨rfl,rfl⟩)|(refine GCall.mk ((hL).mono ?_);rintro _ _ ⟨rfl,rfl⟩))|(with_reducible refine stopC ?_)|(with_reducible refine stopR ?_)))
        (all_goals (first|omega|(rw [List.length_map];done)|(rw [List.length_map];omega)|contradiction|skip))
        exact Done'.mk ⟨.inr ⟨rfl, rfl⟩, Nat.le_refl 3, rfl, rfl⟩
      | cons c1 r1 =>
        repeat' (first|with_reducible refine And.intro ?_ ?_|((with_reducible intro hc);(try simp only [zA,zB,zC,zD,zE,zF,zG,zH,zI,zJ,zK,zL,zM,zN,zO,zP,zQ,zR,zS,zT,zU,zV,zW] at hc);(first|exact absurd rfl hc|exact absurd trivial hc|(exfalso;omega)|skip))|((conv => whnf);first|with_reducible refine And.intro ?_ ?_|refine ifB_intro ?_ ?_|refine xA (by omega) ?_|(refine xB ?_;intro kw hk1 hk2)|refine xC (by omega) ?_|refine xD ?_|refine xE (by omega) ?_|refine xF (by omega) ?_|refine xG ?_|refine xH ?_|refine xI (by omega) ?_|refine xJ (by omega) ?_|(with_reducible refine stopA ?_)|refine Exists.intro _ (And.intro (by rfl) ?_)|(refine GOp.stW (n := 256) (vs := row) (by kernel_rfl) (by rfl) (by rfl) (by rfl) (by rfl) (by rfl) hlen hone ?_)|refine GOp.via (by rfl) ?_|(with_reducible first|refine stopO ?_|refine stopE ?_|refine stopD ?_|refine stopW ?_|refine stopG ?_)|(first|(refine GCall.mk ((hM _).mono ?_);rintro _ _ ⟨rfl,rfl⟩)|(refine GCall.mk ((hL).mono ?_);rintro _ _ ⟨rfl,rfl⟩))|(with_reducible refine stopC ?_)|(with_reducible refine stopR ?_)))
        (all_goals (first|omega|(rw [List.length_map];done)|(rw [List.length_map];omega)|contradiction|skip))
        exact Done'.mk ⟨.inl rfl, Nat.le_refl 3, rfl, rfl⟩
  · rintro v K ⟨h1, h2, h3, h4⟩
    refine ⟨restV t.length (blS s), ⟨rdO t s d e, 3⟩, ⟨rfl, rfl⟩, ?_, h2, fun b x hx => ?_⟩
    · rcases h1 with rfl | ⟨rfl, h1⟩
      · exact fun w Z ρ y h => h
      · rw [h1]
        exact fun w Z ρ y h => by cases h; exact .ro0
    · unfold rdO at hx
      simp only [Heap.get] at hx
      rw [hget_cons] at hx
      split at hx
      · rename_i eb; subst eb; injection hx with hx; subst hx; exact h3
      · rw [hget_cons] at hx
        split at hx
        · rename_i eb; subst eb; injection hx with hx; subst hx; exact h4
        · simp [hget] at hx
theorem FrzB.of' {n : Nat} {K : Heap} {v : VV} {b : Bool} (h : v = booV b) : FrzB n K v (booV b) := by subst h; exact .of (nameless_sc _)
theorem restV_len (N : Nat) (s : List UInt8) : restV N s = .ro 0 [] ∧ s = [] ∨ ∃ q, restV N s = .sl 0 q s.length none 1 := by
  cases s with
  | nil => exact .inl ⟨rfl, rfl⟩
  | cons c r => exact .inr ⟨_, rfl⟩
theorem blanks_call {t s : List UInt8} (hs : s <:+ t) (ht : t.length ≤ 100000) (d e : Nat) : VCall Tryd.prog 11 [.ptr 1 0] ⟨rdO t s d e, 2⟩ (fun v K => v = booV (decide ((blS s).length < s.length)) ∧ K = ⟨rdO t (blS s) d e, 2⟩) := by
  refine VCall.rd ?_
  have hL := trimL_call hs ht d e
  have hbl := blS_len s
  generalize blS s = z at *
  cases s with
  | nil =>
    obtain rfl : z = [] := List.eq_nil_of_length_eq_zero (by simpa using hbl)
    refine VCall.go Tryd.func11 rfl ?_
    repeat' (first|with_reducible refine And.intro ?_ ?_|((with_reducible intro hc);(try simp only [zA,zB,zC,zD,zE,zF,zG,zH,zI,zJ,zK,zL,zM,zN,zO,zP,zQ,zR,zS,zT,zU,zV,zW] at hc);(first|exact absurd rfl hc|exact absurd trivial hc|(exfalso;omega)|skip))|exact Is.mk rfl rfl|((conv => whnf);first|with_reducible refine And.intro ?_ ?_|with_reducible intro hx|exact Is.mk rfl rfl|(with_reducible first|apply Val.via|apply ValH.via)|refine ifB_intro ?_ ?_|refine xA (by omega) ?_|(refine xB ?_;intro kw hk1 hk2)|refine xC (by omega) ?_|refine xD ?_|refine xE (by omega) ?_|refine xF (by omega) ?_|refine xG ?_|refine xH ?_|refine xI (by omega) ?_|refine xJ (by omega) ?_|(with_reducible refine stopA ?_)|refine Exists.intro _ (And.intro (by (first|exact vat_of rfl rfl rfl|rfl)) ?_)|refine GOp.drawn (by rfl) (by rfl) (Nat.le_of_ble_eq_true (by rfl)) (by rfl)|refine GOp.via (by rfl) ?_|refine GWP.drawY mixed _ (by kernel_rfl) (by rfl) ?_|(refine GCall.mk ((hL).mono ?_);rintro _ _ ⟨rfl,rfl⟩)|(with_reducible first|refine stopO ?_|refine stopE ?_|refine stopD ?_|refine stopW ?_|refine stopG ?_|refine stopC ?_|refine stopR ?_)))
    (all_goals (first|omega|(rw [List.length_map];done)|(rw [List.length_map];omega)|contradiction|skip))
    exact Done'.mk ⟨.of (nameless_sc _), rfl, rfl⟩
  | cons c r =>
    cases z with
    | nil =>
      refine VCall.go Tryd.func11 rfl ?_
      repeat' (first|with_reducible refine And.intro ?_ ?_|((with_reducible intro hc);(try simp only [zA,zB,zC,zD,zE,zF,zG,zH,zI,zJ,zK,zL,zM,zN,zO,zP,zQ,zR,zS,zT,zU,zV,zW] at hc);(first|exact absurd rfl hc|exact absurd trivial hc|(exfalso;omega)|skip))|exact Is.mk rfl rfl|((conv => whnf);first|with_reducible refine And.intro ?_ ?_|with_reducible intro hx|exact Is.mk rfl rfl|(with_reducible first|apply Val.via|apply ValH.via)|refine ifB_intro ?_ ?_|refine xA (by omega) ?_|(refine xB ?_;intro kw hk1 hk2)|refine xC (by omega) ?_|refine xD ?_|refine xE (by omega) ?_|refine xF (by omega) ?_|refine xG ?_|refine xH ?_|refine xI (by omega) ?_|refine xJ (by omega) ?_|(with_reducible refine stopA ?_)|refine Exists.intro _ (And.intro (by (first|exact vat_of rfl rfl rfl|rfl)) ?_)|refine GOp.drawn (by rfl) (by rfl) (Nat.le_of_ble_eq_true (by rfl)) (by rfl)|refine GOp.via (by rfl) ?_|refine GWP.drawY mixed _ (by kernel_rfl) (by rfl) ?_|(refine GCall.mk ((hL).mono ?_);rintro _ _ ⟨rfl,rfl⟩)|(with_reducible first|refine stopO ?_|refine stopE ?_|refine stopD ?_|refine stopW ?_|refine stopG ?_|refine stopC ?_|refine stopR ?_)))
      (all_goals (first|omega|(rw [List.length_map];done)|(rw [List.length_map];omega)|contradiction|skip))
      exact Done'.mk ⟨.of (nameless_sc _), rfl, rfl⟩
    | cons c2 r2 =>
      refine VCall.go Tryd.func11 rfl ?_
      repeat' (first|with_reducible refine And.intro ?_ ?_|((with_reducible intro hc);(try simp only [zA,zB,zC,zD,zE,zF,zG,zH,zI,zJ,zK,zL,zM,zN,zO,zP,zQ,zR,zS,zT,zU,zV,zW] at hc);(first|exact absurd rfl hc|exact absurd trivial hc|(exfalso;omega)|skip))|exact Is.mk rfl rfl|((conv => whnf);first|with_reducible refine And.intro ?_ ?_|with_reducible intro hx|exact Is.mk rfl rfl|(with_reducible first|apply Val.via|apply ValH.via)|refine ifB_intro ?_ ?_|refine xA (by omega) ?_|(refine xB ?_;intro kw hk1 hk2)|refine xC (by omega) ?_|refine xD ?_|refine xE (by omega) ?_|refine xF (by omega) ?_|refine xG ?_|refine xH ?_|refine xI (by omega) ?_|refine xJ (by omega) ?_|(with_reducible refine stopA ?_)|refine Exists.intro _ (And.intro (by (first|exact vat_of rfl rfl rfl|rfl)) ?_)|refine GOp.drawn (by rfl) (by rfl) (Nat.le_of_ble_eq_true (by rfl)) (by rfl)|refine GOp.via (by rfl) ?_|refine GWP.drawY mixed _ (by kernel_rfl) (by rfl) ?_|(refine GCall.mk ((hL).mono ?_);rintro _ _ ⟨rfl,rfl⟩)|(with_reducible first|refine stopO ?_|refine stopE ?_|refine stopD ?_|refine stopW ?_|refine stopG ?_|refine stopC ?_|refine stopR ?_)))
      (all_goals (first|omega|(rw [List.length_map];done)|(rw [List.length_map];omega)|contradiction|skip))
      refine Done'.mk ⟨FrzB.of' (congrArg booV ?_), rfl, rfl⟩
      simp only [ltZ_eq, List.length_cons]
      rw [Bool.eq_iff_iff, decide_eq_true_iff, decide_eq_true_iff]
      omega
end Go.Proofs.YthjfobafdclafaaDoor

