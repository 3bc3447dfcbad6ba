import Derived.Test.YtnmjdjldbloefaaGreatDoorH1
import Derived.ProofKit
/- TreeDeep in plain words. -/
namespace Go.Proofs.YtnmjdjldbloefaaGreatDoor
open Go Go.RowKit
set_option linter.unusedSimpArgs false
set_option linter.unusedVariables false
set_option maxRecDepth 100000
def rep (a : List UInt8) : Nat → List UInt8
  | 0 => []
  | n + 1 => rep a n ++ a
def opn (k : Nat) : List UInt8 := if k = 1 then [102, 40] else if k = 2 then [45, 32] else if k = 3 then [110, 111, 116, 32] else [40]
def cls (k : Nat) : List UInt8 := if k = 1 then [41] else if k = 2 then [] else if k = 3 then [] else [41]
def hdE : List UInt8 := [111, 110, 32, 97, 32, 40, 32, 41, 32, 123, 32, 120, 32, 61, 32]
def hdB : List UInt8 := [111, 110, 32, 97, 32, 40, 32, 41, 32, 123]
def ifB1 : List UInt8 := [32, 105, 102, 32, 49, 32, 123]
def txE (k n : Nat) : List UInt8 := ((hdE ++ rep (opn k) n) ++ [49]) ++ rep (cls k) n ++ [32, 59, 32, 125]
def txB (n : Nat) : List UInt8 := (hdB ++ rep ifB1 n) ++ ([125] ++ rep [125] n)
def deepE1 (k n : Nat) : Bool := (parseT (txE k n)).2 == (if 15 < n then 9 else 0)
def deepB1 (n : Nat) : Bool := (parseT (txB n)).2 == (if 15 < n then 9 else 0)
theorem deepE_all : ((List.range 4).all fun k => (List.range 40).all fun n => deepE1 k n) = true := by kernel_rfl
theorem deepB_all : ((List.range 40).all fun n => deepB1 n) = true := by kernel_rfl
theorem deepE_at {k n : Nat} (hk : k < 4) (hn : n < 40) : (parseT (txE k n)).2 = if 15 < n then 9 else 0 := by
  have h := List.all_eq_true.1 (List.all_eq_true.1 deepE_all k (List.mem_range.2 hk)) n (List.mem_range.2 hn)
  exact eq_of_beq h
theorem deepB_at {n : Nat} (hn : n < 40) : (parseT (txB n)).2 = if 15 < n then 9 else 0 := by
  have h := List.all_eq_true.1 deepB_all n (List.mem_range.2 hn)
  exact eq_of_beq h
end Go.Proofs.YtnmjdjldbloefaaGreatDoor

