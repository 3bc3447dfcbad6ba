/- A text between quotation marks; small calls. -/
import Derived.Test.YtbnemkdkeaiaoaaLe0
import Derived.Test.YtbnemkdkeaiaoaaX6
namespace Go.Proofs.Ytbnemkdkeaiaoaa
open Go Go.RowKit
set_option linter.unusedSimpArgs false
set_option linter.unusedVariables false
set_option maxRecDepth 100000
set_option maxHeartbeats 4000000
def escB (c : UInt8) : List UInt8 := if c.toNat = 10 then [92, 110] else if c.toNat = 34 then [92, 34] else if c.toNat = 92 then [92, 92] else [c]
def escL : List UInt8 → List UInt8
  | [] => []
  | c :: r => escB c ++ escL r
def quoteB (t : List UInt8) : List UInt8 := 34 :: (escL t ++ [34])
theorem escB_len (c : UInt8) : 1 ≤ (escB c).length ∧ (escB c).length ≤ 2 := by
  unfold escB
  split
  · simp
  · split
    · simp
    · split <;> simp
theorem escL_len : ∀ t : List UInt8, t.length ≤ (escL t).length ∧ (escL t).length ≤ 2 * t.length
  | [] => by simp [escL]
  | c :: r => by
    have h1 := escB_len c
    have h2 := escL_len r
    simp only [escL, List.length_append, List.length_cons]
    omega
theorem escL_app : ∀ a b : List UInt8, escL (a ++ b) = escL a ++ escL b
  | [], _ => rfl
  | c :: r, b => by simp only [List.cons_append, escL, escL_app r b, List.append_assoc]
theorem escL_take {t : List UInt8} {i : Nat} {c : UInt8} (h : t[i]? = some c) : escL (t.take (i + 1)) = escL (t.take i) ++ escB c := by
  rw [List.take_add_one, h, escL_app]
  simp [escL]
theorem quote_len (t : List UInt8) : (quoteB t).length = (escL t).length + 2 := by simp [quoteB]
theorem quote_at {t : List UInt8} {i : Nat} {c : UInt8} (h : t[i]? = some c) (j : Nat) (hj : j < (escB c).length) : (quoteB t)[1 + (escL (t.take i)).length + j]? = (escB c)[j]? := by
  have hl : i < t.length := by
    rcases Nat.lt_or_ge i t.length with h2 | h2
    · exact h2
    · rw [List.getElem?_eq_none h2] at h; cases h
  have e : t = t.take i ++ c :: t.drop (i + 1) := by
    have h2 : t.drop i = c :: t.drop (i + 1) := by
      rw [List.drop_eq_getElem_cons hl]
      congr 1
      rw [List.getElem?_eq_getElem hl] at h
      exact Option.some.inj h
    rw [← h2, List.take_append_drop]
  have e2 : quoteB t = 34 :: (escL (t.take i) ++ (escB c ++ (escL (t.drop (i + 1)) ++ [34]))) := by
    unfold quoteB
    conv => lhs; rw [e, escL_app]
    simp only [escL, List.append_assoc]
  rw [e2, show 1 + (escL (t.take i)).length + j = ((escL (t.take i)).length + j) + 1 by omega, List.getElem?_cons_succ, List.getElem?_append_right (by omega), Nat.add_sub_cancel_left, List.getElem?_append_left hj]
theorem quote_end (t : List UInt8) : (quoteB t)[1 + (escL t).length]? = some 34 := by
  unfold quoteB
  rw [Nat.add_comm, List.getElem?_cons_succ, List.getElem?_append_right (Nat.le_refl _), Nat.sub_self]
  rfl
theorem lidx110 (H : Heap) : VCall Try.prog 16 [strV [110, 34, 92], bV 110] H (fun x K => x = .sc (.int .i64 0) ∧ K = H) := VCall.closedA mixed 60 (by simp [nameless_strV, nameless_bV]) (by kernel_rfl)
theorem lidx34 (H : Heap) : VCall Try.prog 16 [strV [110, 34, 92], bV 34] H (fun x K => x = .sc (.int .i64 1) ∧ K = H) := VCall.closedA mixed 60 (by simp [nameless_strV, nameless_bV]) (by kernel_rfl)
theorem lidx92 (H : Heap) : VCall Try.prog 16 [strV [110, 34, 92], bV 92] H (fun x K => x = .sc (.int .i64 2) ∧ K = H) := VCall.closedA mixed 60 (by simp [nameless_strV, nameless_bV]) (by kernel_rfl)
theorem sidx34 (H : Heap) : VCall Try.prog 16 [strV [32, 9, 13, 10], bV 34] H (fun x K => x = .sc (.int .i64 (-1)) ∧ K = H) := VCall.closedA mixed 60 (by simp [nameless_strV, nameless_bV]) (by kernel_rfl)
theorem letter34 (H : Heap) : VCall Try.prog 19 [bV 34] H (fun x K => x = .sc (.bool false) ∧ K = H) := VCall.closedA mixed 60 (by simp [nameless_bV]) (by kernel_rfl)
theorem digit34 (H : Heap) : VCall Try.prog 21 [bV 34] H (fun x K => x = .sc (.bool false) ∧ K = H) := VCall.closedA mixed 60 (by simp [nameless_bV]) (by kernel_rfl)
end Go.Proofs.Ytbnemkdkeaiaoaa
