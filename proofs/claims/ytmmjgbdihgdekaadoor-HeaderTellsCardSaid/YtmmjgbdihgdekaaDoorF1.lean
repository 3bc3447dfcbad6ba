/- all over Fields: the pieces without blanks. -/
import Derived.Test.YtmmjgbdihgdekaaDoorVd
import Derived.Test.YtmmjgbdihgdekaaDoorVf
namespace Go.Proofs.YtmmjgbdihgdekaaDoor
open Go Go.RowKit
set_option linter.unusedSimpArgs false
set_option linter.unusedVariables false
set_option maxRecDepth 100000
set_option maxHeartbeats 4000000
def blankB (b : UInt8) : Bool := b == 32 || b == 9
def fieldsGo : List UInt8 → List UInt8 → List (List UInt8)
  | [], cur => if cur.length = 0 then [] else [cur]
  | b :: r, cur => if blankB b then (if cur.length = 0 then fieldsGo r [] else cur :: fieldsGo r []) else fieldsGo r (cur ++ [b])
/-- The pieces without blanks. -/
def fieldsB (l : List UInt8) : List (List UInt8) := fieldsGo l []
def fieldsV (l : List UInt8) : VV := .fn (.func 107) [] [.rp [roB l] 0]
theorem nameless_fieldsV (l : List UInt8) : Nameless (fieldsV l) := nameless_fn (by simp) (by
  simp only [List.mem_singleton, forall_eq]
  exact nameless_rp (by simp [nameless_roB]))
theorem fields_call (l : List UInt8) (H : Heap) (hl : l.length ≤ 140737488355328) : VCall Tryd.prog 59 [roB l] H (fun x K => x = fieldsV l ∧ K = H) := by
  refine VCall.frozen (Q := fun v K => Frz K v (fieldsV l)) (by simp [nameless_roB]) ?_ (fun v K h => h)
  refine VCall.go Tryd.func59 rfl ?_
  repeat' (first | with_reducible refine And.intro ?_ ?_ | ((with_reducible intro hc); (try simp only [zA, zB, zC, zD, zE, zF, zG, zH, zI, zJ, zK, zL, zM, zN, zO, zP, zQ, zR, zS, zT, zU, zV, zW] at hc); (first | (exact absurd rfl hc) | (exact absurd trivial hc) | (exfalso; omega) | skip)) | ((conv => whnf); first | with_reducible refine And.intro ?_ ?_ | refine ifB_intro ?_ ?_ | refine xA (by omega) ?_ | ((refine xB ?_); intro kw hk1 hk2) | refine xC (by omega) ?_ | refine xD ?_ | refine xE (by omega) ?_ | refine xF (by omega) ?_ | refine xG ?_ | refine xH ?_ | refine xI (by omega) ?_ | refine xJ (by omega) ?_ | (with_reducible refine stopA ?_) | refine Exists.intro _ (And.intro (by (first | rfl)) ?_) | refine GOp.via (by rfl) ?_ | (with_reducible first | refine stopO ?_ | refine stopE ?_ | refine stopD ?_ | refine stopW ?_ | refine stopG ?_) | (first | (refine GCall.mk ((clone_call l _ hl).mono ?_); rintro _ _ ⟨rfl, rfl⟩)) | (with_reducible refine stopC ?_) | (with_reducible refine stopR ?_)))
  exact Done'.mk (Frz.fn .nil (.cons (Frz.ptr (vs := [roB l]) rfl (FrzL.of (by simp [nameless_roB]))) .nil))
theorem blank_call (b : UInt8) (H : Heap) : VCall Tryd.prog 109 [bV b] H (fun x K => x = booV (blankB b) ∧ K = H) :=
  VCall.bytes mixed 60 blankB (by kernel_rfl) b H
theorem cut_next {l : List UInt8} {at_ i : Nat} {c : UInt8} (h : l[i]? = some c) (ha : at_ ≤ i) : (l.drop at_).take (i + 1 - at_) = (l.drop at_).take (i - at_) ++ [c] := by
  obtain ⟨hi, e⟩ := List.getElem?_eq_some_iff.1 h
  rw [show i + 1 - at_ = (i - at_) + 1 by omega, List.take_succ_eq_append_getElem (by simp; omega)]
  congr 1
  simp only [List.getElem_drop]
  congr 1
  rw [← e]
  congr 1
  omega
theorem fieldsGo_at {c : UInt8} {l : List UInt8} {i : Nat} (h : l[i]? = some c) (cur : List UInt8) : fieldsGo (l.drop i) cur = if blankB c then (if cur.length = 0 then fieldsGo (l.drop (i + 1)) [] else cur :: fieldsGo (l.drop (i + 1)) []) else fieldsGo (l.drop (i + 1)) (cur ++ [c]) := by
  obtain ⟨hi, e⟩ := List.getElem?_eq_some_iff.1 h
  rw [List.drop_eq_getElem_cons hi, e]
  rfl
theorem frz_gsS1 {K : Heap} {b : Nat} {d : List (List UInt8)} (hg : K.get b = some (.opt (d.map strV))) : Frz K (.gs b d.length 1) (roS d) := Frz.gs hg (by simp) (nameless_map nameless_strV d)
theorem frz_gsS2 {K : Heap} {b : Nat} {d : List (List UInt8)} {x : List UInt8} (hg : K.get b = some (.opt (d.map strV ++ [strV x]))) : Frz K (.gs b (d.length + 1) 1) (roS (d ++ [x])) := by
  have : (d ++ [x]).map strV = d.map strV ++ [strV x] := by simp
  rw [← this] at hg
  have h := frz_gsS1 hg
  rwa [List.length_append] at h
end Go.Proofs.YtmmjgbdihgdekaaDoor
