/- Texts in order. No program in sight. -/
import Derived.Test.YtdgohabgjgdfeaaQ1
import Derived.Sort.EncStr
namespace Go.Proofs.Ytdgohabgjgdfeaa
open Go Go.RowKit
set_option linter.unusedSimpArgs false
set_option linter.unusedVariables false
def ltS (x y : List UInt8) : Bool := decide (x < y)
theorem lt_okS : LtOk ltS := ⟨fun x => by simp [ltS, List.lt_irrefl], fun x y z h1 h2 => by
  simp only [ltS, decide_eq_true_eq] at *
  exact List.lt_trans h1 h2, fun x y => by
  simp only [ltS, decide_eq_true_eq]
  by_cases h : x < y
  · exact .inl h
  · by_cases h2 : y < x
    · exact .inr (.inr h2)
    · exact .inr (.inl (List.le_antisymm (List.not_lt.1 h2) (List.not_lt.1 h)))⟩
theorem bytesLess_eq : ∀ (x y : List UInt8), Op.bytesLess x y = decide (x < y)
  | [], [] => by simp [Op.bytesLess]
  | _ :: _, [] => by simp [Op.bytesLess]
  | [], _ :: _ => by simp [Op.bytesLess]
  | a :: x, b :: y => by
    rw [Op.bytesLess, bytesLess_eq x y]
    simp only [List.cons_lt_cons_iff]
    by_cases h1 : a < b <;> by_cases h2 : a = b <;> by_cases h3 : x < y <;> simp [h1, h2, h3]
end Go.Proofs.Ytdgohabgjgdfeaa
