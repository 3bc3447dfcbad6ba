/- Split, as it is handed over; what a Clone hands back that may be written. -/
import Derived.Test.YtnfmoclmfddajaaC6
import Derived.Test.YtnfmoclmfddajaaV9
namespace Go.Proofs.Ytnfmoclmfddajaa
open Go Go.RowKit
set_option linter.unusedSimpArgs false
set_option linter.unusedVariables false
set_option maxRecDepth 100000
set_option maxHeartbeats 4000000
theorem sty_b : SlTy Try.prog 22 1 1 := ⟨⟨_, _, _, rfl, rfl, rfl, rfl, rfl, rfl⟩⟩
theorem sty_s : SlTy Try.prog 37 1 16 := ⟨⟨_, _, _, rfl, rfl, rfl, rfl, rfl, rfl⟩⟩
theorem one_str (l : List (List UInt8)) : (l.map strV).all VV.one = true := by simp [strV, VV.one]
theorem velems_roB (l : List UInt8) (H : Heap) : velems 1 (roB l) H = some (l.length, l.map bV) := by simp [velems, roB]
theorem velems_sl {H : Heap} {b n : Nat} {c : Option Nat} {vs : List VV} (hg : H.get b = some (.cells true vs)) (hn : n = vs.length) : velems 1 (.sl b 0 n c 1) H = some (n, vs) := by
  subst hn
  simp only [velems, hg]
  simp
/-- append([]byte{}, l...), taken as rows that nobody writes. -/
theorem GOp'.ownB {l : List UInt8} {o : Oper} {ts : List VV} {H : Heap} {K : VV → Heap → Prop} {s x : Operand} {b : Nat} {vs : List VV} (ho : o.op = .call ⟨.builtin .append, #[s, x], #[22, 22]⟩) (hs : veval ts s = .sl b 0 0 (some 0) 1) (hx : veval ts x = roB l) (hl : l.length ≤ 140737488355328)
    (hg : H.get b = some (.cells true vs)) (hrw : AllRw H) (k : K (roB l) ⟨H.objs, H.next + 1⟩) : GOp' Try.prog o ts H K := by
  by_cases h0 : l.length = 0
  · have : l = [] := List.eq_nil_of_length_eq_zero h0
    subst this
    refine GOp'.weak (v := .sl b 0 0 (some 0) 1) (H' := H) (n := H.next + 1) (vop_append ho ?_) (fun w Z ρ y h => weak_sl0 h) (Nat.le_succ _) k
    rw [hs, hx]
    exact vapp_zero sty_b (d := .slice 5) Try.underlying22 (by intro k h; cases h) (.inl ⟨_, _, _, _, rfl⟩) (velems_roB [] _)
  · refine GOp'.fresh (n := l.length) (z := 1) (c := none) (vs := l.map bV) (us := l.map bV) hrw (vop_append ho ?_) (by simp) (nameless_map nameless_bV l) (by rw [List.take_of_length_le (by simp)]) k
    rw [hs, hx]
    have := vapp_full sty_b (d := .slice 5) Try.underlying22 (by intro k h; cases h) (o := 0) (n := 0) (c := 0) (z' := 1) (rw := true) (velems_roB l H) (one_map l) hg (by omega) (by omega) (by simp) (by omega) (by omega)
    rw [this, Nat.zero_add]
    simp
theorem get_skip {objs : List (Nat × VObj)} {nx : Nat} (hl : ∀ b x, (⟨objs, nx⟩ : Heap).get b = some x → b < nx) {b : Nat} {o y : VObj} (h : hget objs b = some o) : hget ((nx, y) :: objs) b = some o := by
  have := hl b o h
  rw [hget_cons, if_neg (by omega)]
  exact h
theorem clone_own {x : List UInt8} (hx : ¬ x.length = 0) (hm : x.length ≤ 140737488355328) (objs : List (Nat × VObj)) (nx : Nat) : VCall Try.prog 82 [roB x] ⟨objs, nx⟩ (fun v K => v = .sl (nx + 1) 0 x.length none 1 ∧ K = ⟨(nx + 1, .cells true (x.map bV)) :: objs, nx + 2⟩) := by
  refine VCall.live fun hl => ?_
  refine VCall.post (Q := fun v K => v = .sl (nx + 1) 0 x.length none 1 ∧ K = ⟨(nx + 1, .cells true (x.map bV)) :: (nx, .cells true []) :: objs, nx + 2⟩) ?_ ?_
  · refine VCall.go Try.func82 rfl ?_
    repeat' (first | (with_reducible refine And.intro ?_ ?_) | ((with_reducible intro hc); (try simp only [str_size, str_list, str_nil, decide_eq_true_eq, decide_eq_false_iff_not, beq_iff_eq, bne_iff_ne, beq_eq_false_iff_ne, bne_eq_false_iff_eq, ne_eq, Bool.not_eq_true', Bool.not_eq_false', Bool.not_true, Bool.not_false, gt_iff_lt, ge_iff_le, Int.not_lt, Int.not_le, Decidable.not_not] at hc); (first | (exact absurd rfl hc) | (exact absurd trivial hc) | (exfalso; omega) | skip)) | ((conv => whnf); first | (with_reducible refine And.intro ?_ ?_) | (refine ifB_intro (fun hc => ?_) (fun hc => ?_) <;> (try simp only [str_size, str_list, str_nil, decide_eq_true_eq, decide_eq_false_iff_not, beq_iff_eq, bne_iff_ne, beq_eq_false_iff_ne, bne_eq_false_iff_eq, ne_eq, Bool.not_eq_true', Bool.not_eq_false', Bool.not_true, Bool.not_false, gt_iff_lt, ge_iff_le, Int.not_lt, Int.not_le, Decidable.not_not] at hc) <;> (first | (exact absurd rfl hc) | (exact absurd trivial hc) | (exfalso; omega) | skip)) | (refine GAr.i64 (by omega) ?_) | ((refine GAr.i64w ?_); intro kw hk1 hk2) | (refine GAr.u8s (by omega) ?_) | (refine GAr.u8 ?_) | (refine GAr.u64s (by omega) ?_) | (refine GAr.u32s (by omega) ?_) | (refine GAr.u64 ?_) | (refine GAr.u32 ?_) | (refine GQuo.i64 (by omega) ?_) | (refine GRem.pos (by omega) ?_) | (with_reducible refine stopA ?_) | (refine Exists.intro _ (And.intro (by rfl) ?_)) | (refine GOp.via (by rfl) ?_) | (with_reducible refine stopO ?_) | (with_reducible refine stopE ?_) | (with_reducible refine stopD ?_) | (with_reducible refine stopW ?_) | (with_reducible refine stopC ?_) | (with_reducible refine stopR ?_)))
    refine GOp'.via ((vapp_full sty_b (d := .slice 5) Try.underlying22 (by intro k h; cases h) (b := nx) (o := 0) (n := 0) (c := 0) (z' := 1) (vs := []) (rw := true) (velems_roB x _) (one_map x) (by simp [Heap.add, Heap.get, hget_cons, vzeros]) (by omega) (by omega) (by simp) (by omega) (by omega)).trans (by rw [Nat.zero_add])) ?_
    repeat' (first | (with_reducible refine And.intro ?_ ?_) | ((with_reducible intro hc); (try simp only [str_size, str_list, str_nil, decide_eq_true_eq, decide_eq_false_iff_not, beq_iff_eq, bne_iff_ne, beq_eq_false_iff_ne, bne_eq_false_iff_eq, ne_eq, Bool.not_eq_true', Bool.not_eq_false', Bool.not_true, Bool.not_false, gt_iff_lt, ge_iff_le, Int.not_lt, Int.not_le, Decidable.not_not] at hc); (first | (exact absurd rfl hc) | (exact absurd trivial hc) | (exfalso; omega) | skip)) | ((conv => whnf); first | (with_reducible refine And.intro ?_ ?_) | (refine ifB_intro (fun hc => ?_) (fun hc => ?_) <;> (try simp only [str_size, str_list, str_nil, decide_eq_true_eq, decide_eq_false_iff_not, beq_iff_eq, bne_iff_ne, beq_eq_false_iff_ne, bne_eq_false_iff_eq, ne_eq, Bool.not_eq_true', Bool.not_eq_false', Bool.not_true, Bool.not_false, gt_iff_lt, ge_iff_le, Int.not_lt, Int.not_le, Decidable.not_not] at hc) <;> (first | (exact absurd rfl hc) | (exact absurd trivial hc) | (exfalso; omega) | skip)) | (refine GAr.i64 (by omega) ?_) | ((refine GAr.i64w ?_); intro kw hk1 hk2) | (refine GAr.u8s (by omega) ?_) | (refine GAr.u8 ?_) | (refine GAr.u64s (by omega) ?_) | (refine GAr.u32s (by omega) ?_) | (refine GAr.u64 ?_) | (refine GAr.u32 ?_) | (refine GQuo.i64 (by omega) ?_) | (refine GRem.pos (by omega) ?_) | (with_reducible refine stopA ?_) | (refine Exists.intro _ (And.intro (by rfl) ?_)) | (refine GOp.via (by rfl) ?_) | (with_reducible refine stopO ?_) | (with_reducible refine stopE ?_) | (with_reducible refine stopD ?_) | (with_reducible refine stopW ?_) | (with_reducible refine stopC ?_) | (with_reducible refine stopR ?_)))
    exact Done'.mk ⟨rfl, rfl⟩
  · rintro v K ⟨rfl, rfl⟩
    refine ⟨_, _, ⟨rfl, rfl⟩, fun _ _ _ _ h => h, Nat.le_refl _, fun b o h => ?_⟩
    simp only [Heap.get] at h ⊢
    rw [hget_cons] at h ⊢
    split at h
    · rename_i e; rw [if_pos e]; exact h
    · rename_i e
      rw [if_neg e]
      exact get_skip hl h
theorem clone_own0 (objs : List (Nat × VObj)) (nx : Nat) : VCall Try.prog 82 [roB []] ⟨objs, nx⟩ (fun v K => v = .ro 0 [] ∧ K = ⟨objs, nx + 1⟩) := by
  refine VCall.live fun hl => ?_
  refine VCall.post (Q := fun v K => (v = .sc (.slice none 0 0) ∧ K = ⟨objs, nx⟩) ∨ (v = .sl nx 0 0 (some 0) 1 ∧ ∃ y, K = ⟨(nx, y) :: objs, nx + 1⟩)) ?_ ?_
  · refine VCall.go Try.func82 rfl ?_
    repeat' (first | (with_reducible refine And.intro ?_ ?_) | ((with_reducible intro hc); (try simp only [str_size, str_list, str_nil, decide_eq_true_eq, decide_eq_false_iff_not, beq_iff_eq, bne_iff_ne, beq_eq_false_iff_ne, bne_eq_false_iff_eq, ne_eq, Bool.not_eq_true', Bool.not_eq_false', Bool.not_true, Bool.not_false, gt_iff_lt, ge_iff_le, Int.not_lt, Int.not_le, Decidable.not_not] at hc); (first | (exact absurd rfl hc) | (exact absurd trivial hc) | (exfalso; omega) | skip)) | ((conv => whnf); first | (with_reducible refine And.intro ?_ ?_) | (refine ifB_intro (fun hc => ?_) (fun hc => ?_) <;> (try simp only [str_size, str_list, str_nil, decide_eq_true_eq, decide_eq_false_iff_not, beq_iff_eq, bne_iff_ne, beq_eq_false_iff_ne, bne_eq_false_iff_eq, ne_eq, Bool.not_eq_true', Bool.not_eq_false', Bool.not_true, Bool.not_false, gt_iff_lt, ge_iff_le, Int.not_lt, Int.not_le, Decidable.not_not] at hc) <;> (first | (exact absurd rfl hc) | (exact absurd trivial hc) | (exfalso; omega) | skip)) | (refine GAr.i64 (by omega) ?_) | ((refine GAr.i64w ?_); intro kw hk1 hk2) | (refine GAr.u8s (by omega) ?_) | (refine GAr.u8 ?_) | (refine GAr.u64s (by omega) ?_) | (refine GAr.u32s (by omega) ?_) | (refine GAr.u64 ?_) | (refine GAr.u32 ?_) | (refine GQuo.i64 (by omega) ?_) | (refine GRem.pos (by omega) ?_) | (with_reducible refine stopA ?_) | (refine Exists.intro _ (And.intro (by rfl) ?_)) | (refine GOp.via (by rfl) ?_) | (with_reducible refine stopO ?_) | (with_reducible refine stopE ?_) | (with_reducible refine stopD ?_) | (with_reducible refine stopW ?_) | (with_reducible refine stopC ?_) | (with_reducible refine stopR ?_)))
    · exact Done'.mk (.inl ⟨rfl, rfl⟩)
    · exact Done'.mk (.inr ⟨rfl, _, rfl⟩)
  · rintro v K (⟨rfl, rfl⟩ | ⟨rfl, y, rfl⟩)
    · exact ⟨_, _, ⟨rfl, rfl⟩, fun _ _ _ _ h => weak_nil h, by simp, fun b o h => h⟩
    · exact ⟨_, _, ⟨rfl, rfl⟩, fun _ _ _ _ h => weak_sl0 h, by simp, fun b o h => get_skip hl h⟩
def splitGo (by_ : UInt8) : List UInt8 → List UInt8 → List (List UInt8)
  | [], cur => [cur]
  | b :: r, cur => if b = by_ then cur :: splitGo by_ r [] else splitGo by_ r (cur ++ [b])
/-- The pieces between bytes. -/
def splitB (l : List UInt8) (b : UInt8) : List (List UInt8) := splitGo b l []
def splitV (l : List UInt8) (b : UInt8) : VV := .fn (.func 128) [] [.rp [roB l] 0, .rp [.fn (.func 83) [] [.rp [bV b] 0]] 0]
theorem split_call (l : List UInt8) (b : UInt8) (H : Heap) (hl : l.length ≤ 140737488355328) : VCall Try.prog 27 [roB l, bV b] H (fun x K => x = splitV l b ∧ K = H) := by
  refine VCall.frozen (Q := fun v K => Frz K v (splitV l b)) (by simp [nameless_roB, nameless_bV]) ?_ (fun v K h => h)
  refine VCall.go Try.func27 rfl ?_
  repeat' (first | (with_reducible refine And.intro ?_ ?_) | ((with_reducible intro hc); (try simp only [str_size, str_list, str_nil, decide_eq_true_eq, decide_eq_false_iff_not, beq_iff_eq, bne_iff_ne, beq_eq_false_iff_ne, bne_eq_false_iff_eq, ne_eq, Bool.not_eq_true', Bool.not_eq_false', Bool.not_true, Bool.not_false, gt_iff_lt, ge_iff_le, Int.not_lt, Int.not_le, Decidable.not_not] at hc); (first | (exact absurd rfl hc) | (exact absurd trivial hc) | (exfalso; omega) | skip)) | ((conv => whnf); first | (with_reducible refine And.intro ?_ ?_) | (refine ifB_intro (fun hc => ?_) (fun hc => ?_) <;> (try simp only [str_size, str_list, str_nil, decide_eq_true_eq, decide_eq_false_iff_not, beq_iff_eq, bne_iff_ne, beq_eq_false_iff_ne, bne_eq_false_iff_eq, ne_eq, Bool.not_eq_true', Bool.not_eq_false', Bool.not_true, Bool.not_false, gt_iff_lt, ge_iff_le, Int.not_lt, Int.not_le, Decidable.not_not] at hc) <;> (first | (exact absurd rfl hc) | (exact absurd trivial hc) | (exfalso; omega) | skip)) | (refine GAr.i64 (by omega) ?_) | ((refine GAr.i64w ?_); intro kw hk1 hk2) | (refine GAr.u8s (by omega) ?_) | (refine GAr.u8 ?_) | (refine GAr.u64s (by omega) ?_) | (refine GAr.u32s (by omega) ?_) | (refine GAr.u64 ?_) | (refine GAr.u32 ?_) | (refine GQuo.i64 (by omega) ?_) | (refine GRem.pos (by omega) ?_) | (with_reducible refine stopA ?_) | (refine Exists.intro _ (And.intro (by (first | rfl)) ?_)) | (refine GOp.via (by rfl) ?_) | (with_reducible refine stopO ?_) | (with_reducible refine stopE ?_) | (with_reducible refine stopD ?_) | (with_reducible refine stopW ?_) | (first | (refine GCall.mk ((clone_call l _ hl).mono ?_); rintro _ _ ⟨rfl, rfl⟩) | (refine GCall.mk (VCall.inl Try.func81 rfl ?_))) | (with_reducible refine stopC ?_) | (with_reducible refine stopR ?_)))
  refine Done'.mk (Frz.fn .nil (.cons (Frz.ptr (vs := [roB l]) rfl (FrzL.of (by simp [nameless_roB]))) (.cons (Frz.ptr (vs := [.fn (.func 83) [] [.ptr 0 0]]) rfl (.cons (Frz.fn .nil (.cons (Frz.ptr (vs := [bV b]) rfl (FrzL.of (by simp [nameless_bV]))) .nil)) .nil)) .nil)))
end Go.Proofs.Ytnfmoclmfddajaa
