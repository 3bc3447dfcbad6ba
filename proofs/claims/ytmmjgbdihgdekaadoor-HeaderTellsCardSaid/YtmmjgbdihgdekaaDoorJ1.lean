/- Headers, plain: what lines make, and the two ways to go over them. -/
import Derived.Test.YtmmjgbdihgdekaaDoorJt
namespace Go.Proofs.YtmmjgbdihgdekaaDoor
open Go Go.RowKit
set_option linter.unusedSimpArgs false
set_option linter.unusedVariables false
/-- Without a carriage return at the end. -/
def trimCR (l : List UInt8) : List UInt8 := if l.getLast? = some 13 then l.dropLast else l
abbrev HF := List UInt8 × List UInt8
/-- The error of one more field behind so many. -/
def hwrong (f : HF) (n : Nat) : Nat := if !tokenB f.1 || (f.2.contains 13 || f.2.contains 10) || !(trimB f.2 == f.2) then 2 else if 64 ≤ n then 3 else 0
/-- The field of a line, and its error behind so many. -/
def hfield (line : List UInt8) : HF := ((cutB line 58).1, trimB (cutB line 58).2.1)
def herr (line : List UInt8) (n : Nat) : Nat := if (cutB line 58).2.2 then hwrong (hfield line) n else 2
inductive HR where
  | err (e : Nat)
  | ok (l : List HF) (body : List UInt8)
/-- One line more. -/
def hstep (line : List UInt8) (acc : List HF) (empty : HR) (next : List HF → HR) : HR :=
  if trimCR line = [] then empty else if herr (trimCR line) acc.length = 0 then next (acc ++ [hfield (trimCR line)]) else .err (herr (trimCR line) acc.length)
def hgo : List UInt8 → List UInt8 → List HF → HR
  | [], cur, acc => hstep cur acc (.ok acc []) (fun a => .ok a [])
  | b :: t, cur, acc => if b = 10 then hstep cur acc (.ok acc t) (fun a => hgo t [] a) else hgo t (cur ++ [b]) acc
/-- The header and the body of a text. -/
def hparse (t : List UInt8) : HR := hgo t [] []
/-- As hgo, of a block without a body. -/
def lgo : List UInt8 → List UInt8 → List HF → HR
  | [], cur, acc => hstep cur acc (.ok acc []) (fun a => .ok a [])
  | b :: t, cur, acc => if b = 10 then hstep cur acc (.ok acc []) (fun a => lgo t [] a) else lgo t (cur ++ [b]) acc
/-- All values of the lines that are come to are of a kind. -/
def lvis (Q : List UInt8 → Prop) : List UInt8 → List UInt8 → List HF → Prop
  | [], cur, acc => trimCR cur = [] ∨ Q (hfield (trimCR cur)).2
  | b :: t, cur, acc => if b = 10 then trimCR cur = [] ∨ (Q (hfield (trimCR cur)).2 ∧ (herr (trimCR cur) acc.length = 0 → lvis Q t [] (acc ++ [hfield (trimCR cur)]))) else lvis Q t (cur ++ [b]) acc
theorem lvis_all {Q : List UInt8 → Prop} (hQ : ∀ x, Q x) : ∀ (l cur : List UInt8) (acc : List HF), lvis Q l cur acc
  | [], cur, acc => .inr (hQ _)
  | b :: t, cur, acc => by
    unfold lvis
    split
    · exact .inr ⟨hQ _, fun _ => lvis_all hQ t [] _⟩
    · exact lvis_all hQ t _ acc
/-- The block and the body: of the line begun, and what is behind. -/
def spH : List UInt8 → List UInt8 → List UInt8 × List UInt8
  | [], cur => (cur, [])
  | b :: t, cur => if b = 10 then (if trimCR cur = [] then ([], t) else (cur ++ 10 :: (spH t []).1, (spH t []).2)) else spH t (cur ++ [b])
def HR.body (b : List UInt8) : HR → HR
  | .err e => .err e
  | .ok l _ => .ok l b
theorem lgo_skip : ∀ (p r cur : List UInt8) (acc : List HF), 10 ∉ p → lgo (p ++ r) cur acc = lgo r (cur ++ p) acc
  | [], r, cur, acc, _ => by simp
  | c :: p, r, cur, acc, h => by
    have hc : ¬ c = 10 := fun e => h (by rw [e]; exact List.mem_cons_self)
    rw [List.cons_append]
    show (if c = 10 then _ else _) = _
    rw [if_neg hc, lgo_skip p r (cur ++ [c]) acc (fun hm => h (List.mem_cons_of_mem _ hm)), List.append_assoc]
    rfl
theorem lgo_two (r cur : List UInt8) (acc : List HF) (h : 10 ∉ cur) : lgo (cur ++ r) [] acc = lgo r cur acc := by
  rw [lgo_skip cur r [] acc h]; rfl
theorem hgo_spH : ∀ (r cur : List UInt8) (acc : List HF), 10 ∉ cur → hgo r cur acc = (lgo (spH r cur).1 [] acc).body (spH r cur).2
  | [], cur, acc, h => by
    have := lgo_two [] cur acc h
    rw [List.append_nil] at this
    show hstep cur acc (.ok acc []) (fun a => .ok a []) = (lgo cur [] acc).body []
    rw [this]
    unfold lgo hstep
    split
    · rfl
    · split <;> rfl
  | b :: t, cur, acc, h => by
    by_cases hb : b = 10
    · unfold hgo spH
      rw [if_pos hb, if_pos hb]
      by_cases he : trimCR cur = []
      · rw [if_pos he]
        show _ = (lgo [] [] acc).body t
        unfold hstep
        rw [if_pos he]
        rfl
      · rw [if_neg he]
        show _ = (lgo (cur ++ 10 :: (spH t []).1) [] acc).body (spH t []).2
        rw [lgo_two _ cur acc h]
        unfold hstep lgo
        rw [if_pos rfl, if_neg he]
        unfold hstep
        rw [if_neg he]
        split
        · exact hgo_spH t [] _ (by simp)
        · rfl
    · unfold hgo spH
      rw [if_neg hb, if_neg hb]
      exact hgo_spH t (cur ++ [b]) acc (by
        intro hm
        rcases List.mem_append.1 hm with hm | hm
        · exact h hm
        · exact hb (List.mem_singleton.1 hm).symm)
theorem hparse_sp (t : List UInt8) : hparse t = (lgo (spH t []).1 [] []).body (spH t []).2 := hgo_spH t [] [] (by simp)
/-- A whole line at once. -/
theorem hgo_line : ∀ (p r cur : List UInt8) (acc : List HF), 10 ∉ p → hgo (p ++ 10 :: r) cur acc = hstep (cur ++ p) acc (.ok acc r) (fun a => hgo r [] a)
  | [], r, cur, acc, _ => by
    rw [List.nil_append, List.append_nil]
    show (if (10 : UInt8) = 10 then _ else _) = _
    rw [if_pos rfl]
  | c :: p, r, cur, acc, h => by
    have hc : ¬ c = 10 := fun e => h (by rw [e]; exact List.mem_cons_self)
    rw [List.cons_append]
    show (if c = 10 then _ else _) = _
    rw [if_neg hc, hgo_line p r (cur ++ [c]) acc (fun hm => h (List.mem_cons_of_mem _ hm)), List.append_assoc]
    rfl
theorem hgo_last : ∀ (p cur : List UInt8) (acc : List HF), 10 ∉ p → hgo p cur acc = hstep (cur ++ p) acc (.ok acc []) (fun a => .ok a [])
  | [], cur, acc, _ => by rw [List.append_nil]; rfl
  | c :: p, cur, acc, h => by
    have hc : ¬ c = 10 := fun e => h (by rw [e]; exact List.mem_cons_self)
    show (if c = 10 then _ else _) = _
    rw [if_neg hc, hgo_last p (cur ++ [c]) acc (fun hm => h (List.mem_cons_of_mem _ hm)), List.append_assoc]
    rfl
end Go.Proofs.YtmmjgbdihgdekaaDoor
