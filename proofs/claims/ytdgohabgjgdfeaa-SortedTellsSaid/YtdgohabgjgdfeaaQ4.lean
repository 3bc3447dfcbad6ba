/- Sets of one kind: Sort, Compact, Clip, Of. -/
import Derived.Test.YtdgohabgjgdfeaaQ3
import Derived.Test.YtdgohabgjgdfeaaQ2b
import Derived.Test.YtdgohabgjgdfeaaShelf
namespace Go.Proofs.Ytdgohabgjgdfeaa
open Go Go.RowKit
set_option linter.unusedSimpArgs false
set_option linter.unusedVariables false
set_option maxRecDepth 100000
set_option maxHeartbeats 1000000
theorem grow_nilI (w : World) : Sort.grow w #[] = w := by
  obtain ⟨heap, a, b, c⟩ := w
  simp [Sort.grow]
theorem sort0_I {H : Heap} : VCall Try.prog 52 [.ro 0 []] H (fun v K => v = .tp [] ∧ K = H) :=
  VCall.emp (fun _ _ => .tuple #[]) (.tp []) (fun _ _ _ _ _ => .tp rfl (fun i u c hu _ => by simp at hu)) (fun p c w => Try.slices_Sort_int_none p c w)
theorem compact0_I {H : Heap} : VCall Try.prog 54 [.ro 0 []] H (fun v K => v = .ro 0 [] ∧ K = H) :=
  VCall.emp (fun p c => .slice p 0 c) (.ro 0 []) (fun _ _ _ _ _ => .ro0) (fun p c w => Try.slices_Compact_int_empty p c w)
theorem sort_I {H : Heap} {b : Nat} {c : Option Nat} (zs : List Int) (hl : zs.length ≤ 1000000) (hg : H.get b = some (.cells true (zs.map iV))) : VCall Try.prog 52 [.sl b 0 zs.length c 1] H (fun v K => v = .tp [] ∧ K = H.set b (.cells true ((zs.mergeSort (fun x y => decide (x ≤ y))).map iV))) :=
  VCall.row (Value.int .i64) iV (fun x w Z ρ => .sc rfl) (fun x w Z ρ y h => sc_inv h) zs _ (by simp) hg rfl (fun _ _ => .tuple #[]) (.tp []) (fun _ _ _ _ _ _ => .tp rfl (fun i u c hu _ => by simp at hu)) (fun k c' w hH hk hc => Try.slices_Sort_int k 0 c' zs w hH hk (by omega))
theorem compact_I {H : Heap} {b : Nat} {c : Option Nat} (zs : List Int) (hl : zs.length ≤ 1000000) (hg : H.get b = some (.cells true (zs.map iV))) : VCall Try.prog 54 [.sl b 0 zs.length c 1] H (fun v K => v = .sl b 0 (Lib.compact zs).length c 1 ∧ K = H.set b (.cells true ((Lib.compact zs ++ List.replicate (zs.length - (Lib.compact zs).length) 0).map iV))) := by
  have hle := Lib.compact_length_le zs
  exact VCall.row (Value.int .i64) iV (fun x w Z ρ => .sc rfl) (fun x w Z ρ y h => sc_inv h) zs _ (by simp; omega) hg rfl (fun k c' => .slice (some ⟨k, 0, none⟩) (Lib.compact zs).length c') (.sl b 0 (Lib.compact zs).length c 1) (fun _ _ _ _ _ h => by
    cases h with
    | sl hk hn hc hz => exact .sl hk (by omega) hc hz) (fun k c' w hH hk hc => (Try.slices_Compact_int k 0 c' zs w hH (by omega) hc).mono fun e w' ⟨h1, q, h2⟩ => ⟨h1, q, #[], h2.trans (grow_nilI _).symm⟩)
theorem compact_pos {α : Type} [Inhabited α] [DecidableEq α] {zs : List α} (h : zs.length ≠ 0) : (Lib.compact zs).length ≠ 0 := by
  match zs, h with
  | x :: r, _ =>
    have := (compact_mem (x :: r) x).2 (by simp)
    intro e
    rw [List.eq_nil_of_length_eq_zero e] at this
    simp at this
theorem exact_mapI (l : List Int) : ∀ v ∈ l.map iV, Exact v := fun v hv => by
  obtain ⟨x, _, rfl⟩ := List.mem_map.1 hv
  exact exact_sc _
theorem frx_preI {K : Heap} {b n : Nat} {c : Option Nat} {cs rs : List Int} (hg : K.get b = some (.cells true ((cs ++ rs).map iV))) (hn : n = cs.length) : Frx K (.sl b 0 n c 1) (roI cs) := by
  subst hn
  have := Frx.sl (K := K) (b := b) (o := 0) (n := cs.length) (z := 1) (c := c) hg (by simp) (exact_mapI _)
  rw [List.drop_zero, Nat.mul_one, ← List.map_take, List.take_left] at this
  exact this
theorem of0_I (l : List Int) (hl : l.length ≤ 100000) : VCall Try.prog 17 [roI l] ⟨[], 0⟩ (fun v K => Frx K v (setV (roI (ofL ltI l)))) := by
  refine VCall.go Try.func17 rfl ?_
  have hlm : (l.mergeSort (fun x y => decide (x ≤ y))).length = l.length := by simp
  have hof : ofL ltI l = Lib.compact (l.mergeSort (fun x y => decide (x ≤ y))) := by unfold ofL; rw [(show (fun x y : Int => !ltI y x) = (fun x y => decide (x ≤ y)) by funext x y; rw [ltI, Bool.eq_iff_iff]; simp)]
  by_cases h0 : l.length = 0
  · have h2 := List.eq_nil_of_length_eq_zero h0
    subst h2
    have hs : ∀ (H : Heap) (b : Nat), VCall Try.prog 52 [.gs b 0 1] H (fun v K => v = .tp [] ∧ K = H) := fun H b => VCall.argV (weak_one fun w Z ρ y h => weak_gsE h) sort0_I
    have hc : ∀ (H : Heap) (b : Nat), VCall Try.prog 54 [.gs b 0 1] H (fun v K => v = .ro 0 [] ∧ K = H) := fun H b => VCall.argV (weak_one fun w Z ρ y h => weak_gsE h) compact0_I
    repeat' (first | (with_reducible refine And.intro ?_ ?_) | ((with_reducible intro hc); (try simp only [leZ_eq, ltZ_eq, eqZ_eq, str_size, str_list, str_nil, List.toList_toArray, decide_eq_true_eq, decide_eq_false_iff_not, beq_iff_eq, bne_iff_ne, beq_eq_false_iff_ne, bne_eq_false_iff_eq, ne_eq, Bool.not_eq_true', Bool.not_eq_false', Bool.not_true, Bool.not_false, gt_iff_lt, ge_iff_le, Int.not_lt, Int.not_le, Decidable.not_not] at hc); (first | (exact absurd rfl hc) | (exact absurd trivial hc) | (exfalso; omega) | skip)) | (exact Is.mk rfl rfl) | ((conv => whnf); first | (with_reducible refine And.intro ?_ ?_) | (with_reducible intro hx) | (exact Is.mk rfl rfl) | (with_reducible apply Val.via) | (with_reducible apply ValH.via) | (refine ifB_intro (fun hc => ?_) (fun hc => ?_) <;> (try simp only [leZ_eq, ltZ_eq, eqZ_eq, str_size, str_list, str_nil, List.toList_toArray, decide_eq_true_eq, decide_eq_false_iff_not, beq_iff_eq, bne_iff_ne, beq_eq_false_iff_ne, bne_eq_false_iff_eq, ne_eq, Bool.not_eq_true', Bool.not_eq_false', Bool.not_true, Bool.not_false, gt_iff_lt, ge_iff_le, Int.not_lt, Int.not_le, Decidable.not_not] at hc) <;> (first | (exact absurd rfl hc) | (exact absurd trivial hc) | (exfalso; omega) | skip)) | (refine GAr.i64 (by omega) ?_) | ((refine GAr.i64w ?_); intro kw hk1 hk2) | (refine GAr.u8s (by omega) ?_) | (refine GAr.u8 ?_) | (refine GAr.u64s (by omega) ?_) | (refine GAr.u32s (by omega) ?_) | (refine GAr.u64 ?_) | (refine GAr.u32 ?_) | (refine GQuo.i64 (by omega) ?_) | (refine GRem.pos (by omega) ?_) | (with_reducible refine stopA ?_) | (refine Exists.intro _ (And.intro (by (first | exact vat_of rfl rfl rfl)) ?_)) | (refine GOp.drawn (by rfl) (by rfl) (Nat.le_of_ble_eq_true (by rfl)) (by rfl)) | (refine GOp.via (by rfl) ?_) | (refine GWP.drawY mixed _ (by kernel_rfl) (by rfl) ?_) | (first | (refine GCall.mk ((cloneG_I [] (by simp) _).mono ?_); rintro _ _ ⟨rfl, rfl⟩) | (refine GCall.mk ((hs _ _).mono ?_); rintro _ _ ⟨rfl, rfl⟩) | (refine GCall.mk ((hc _ _).mono ?_); rintro _ _ ⟨rfl, rfl⟩) | (refine GCall.mk ((clip0_I).mono ?_); rintro _ _ ⟨rfl, rfl⟩)) | (with_reducible refine stopO ?_) | (with_reducible refine stopE ?_) | (with_reducible refine stopD ?_) | (with_reducible refine stopW ?_) | (with_reducible refine stopG ?_) | (with_reducible refine stopC ?_) | (with_reducible refine stopR ?_)))
    rw [show ofL ltI ([] : List Int) = [] from List.eq_nil_of_length_eq_zero (by have := ofL_len (lt := ltI) ([] : List Int); simpa using this)]
    exact Done'.mk (Frx.ag (.cons Frx.ro0 .nil))
  · have hs : ∀ (H : Heap) (hg : H.get 1 = some (.opt (l.map iV))), VCall Try.prog 52 [.gs 1 l.length 1] H (fun v K => v = .tp [] ∧ K = (H.set 1 (.cells true (l.map iV))).set 1 (.cells true ((l.mergeSort (fun x y => decide (x ≤ y))).map iV))) := fun H hg => VCall.gsC hg h0 (sort_I l (by omega) (by rw [Heap.get_set, if_pos rfl, hg]; rfl))
    have hc : ∀ (H : Heap) (hg : H.get 1 = some (.cells true ((l.mergeSort (fun x y => decide (x ≤ y))).map iV))), VCall Try.prog 54 [.gs 1 l.length 1] H (fun v K => v = .sl 1 0 (Lib.compact (l.mergeSort (fun x y => decide (x ≤ y)))).length none 1 ∧ K = H.set 1 (.cells true ((Lib.compact (l.mergeSort (fun x y => decide (x ≤ y))) ++ List.replicate ((l.mergeSort (fun x y => decide (x ≤ y))).length - (Lib.compact (l.mergeSort (fun x y => decide (x ≤ y)))).length) 0).map iV))) := fun H hg => VCall.argV (weak_one fun w Z ρ y h => weak_gsS h0 h) (by
      have := compact_I (c := none) (l.mergeSort (fun x y => decide (x ≤ y))) (by omega) hg
      rw [hlm] at this
      rw [hlm]
      exact this)
    have hcp : (Lib.compact (l.mergeSort (fun x y => decide (x ≤ y)))).length ≠ 0 := compact_pos (by omega)
    rw [hof]
    clear hof
    generalize Lib.compact (l.mergeSort (fun x y => decide (x ≤ y))) = cs at *
    generalize l.mergeSort (fun x y => decide (x ≤ y)) = ms at *
    generalize List.replicate (ms.length - cs.length) (0 : Int) = rs at *
    repeat' (first | (with_reducible refine And.intro ?_ ?_) | ((with_reducible intro hc); (try simp only [leZ_eq, ltZ_eq, eqZ_eq, str_size, str_list, str_nil, List.toList_toArray, decide_eq_true_eq, decide_eq_false_iff_not, beq_iff_eq, bne_iff_ne, beq_eq_false_iff_ne, bne_eq_false_iff_eq, ne_eq, Bool.not_eq_true', Bool.not_eq_false', Bool.not_true, Bool.not_false, gt_iff_lt, ge_iff_le, Int.not_lt, Int.not_le, Decidable.not_not] at hc); (first | (exact absurd rfl hc) | (exact absurd trivial hc) | (exfalso; omega) | skip)) | (exact Is.mk rfl rfl) | ((conv => whnf); first | (with_reducible refine And.intro ?_ ?_) | (with_reducible intro hx) | (exact Is.mk rfl rfl) | (with_reducible apply Val.via) | (with_reducible apply ValH.via) | (refine ifB_intro (fun hc => ?_) (fun hc => ?_) <;> (try simp only [leZ_eq, ltZ_eq, eqZ_eq, str_size, str_list, str_nil, List.toList_toArray, decide_eq_true_eq, decide_eq_false_iff_not, beq_iff_eq, bne_iff_ne, beq_eq_false_iff_ne, bne_eq_false_iff_eq, ne_eq, Bool.not_eq_true', Bool.not_eq_false', Bool.not_true, Bool.not_false, gt_iff_lt, ge_iff_le, Int.not_lt, Int.not_le, Decidable.not_not] at hc) <;> (first | (exact absurd rfl hc) | (exact absurd trivial hc) | (exfalso; omega) | skip)) | (refine GAr.i64 (by omega) ?_) | ((refine GAr.i64w ?_); intro kw hk1 hk2) | (refine GAr.u8s (by omega) ?_) | (refine GAr.u8 ?_) | (refine GAr.u64s (by omega) ?_) | (refine GAr.u32s (by omega) ?_) | (refine GAr.u64 ?_) | (refine GAr.u32 ?_) | (refine GQuo.i64 (by omega) ?_) | (refine GRem.pos (by omega) ?_) | (with_reducible refine stopA ?_) | (refine Exists.intro _ (And.intro (by (first | exact vat_of rfl rfl rfl)) ?_)) | (refine GOp.drawn (by rfl) (by rfl) (Nat.le_of_ble_eq_true (by rfl)) (by rfl)) | (refine GOp.via (by rfl) ?_) | (refine GWP.drawY mixed _ (by kernel_rfl) (by rfl) ?_) | (first | (refine GCall.mk ((cloneG_I l (by omega) _).mono ?_); rintro _ _ ⟨rfl, rfl⟩) | (refine GCall.mk ((hs _ rfl).mono ?_); rintro _ _ ⟨rfl, rfl⟩) | (refine GCall.mk ((hc _ rfl).mono ?_); rintro _ _ ⟨rfl, rfl⟩) | (refine GCall.mk ((clipL_I hcp).mono ?_); rintro _ _ ⟨rfl, rfl⟩)) | (with_reducible refine stopO ?_) | (with_reducible refine stopE ?_) | (with_reducible refine stopD ?_) | (with_reducible refine stopW ?_) | (with_reducible refine stopG ?_) | (with_reducible refine stopC ?_) | (with_reducible refine stopR ?_)))
    exact Done'.mk (Frx.ag (.cons (frx_preI (rs := rs) rfl rfl) .nil))
theorem of_I (l : List Int) (hl : l.length ≤ 100000) (H : Heap) : VCall Try.prog 17 [roI l] H (fun v K => v = setV (roI (ofL ltI l)) ∧ K = H) :=
  VCall.frozen (Q := fun v K => Frx K v (setV (roI (ofL ltI l)))) (by simp [nameless_roI]) (of0_I l hl) (fun v K h => h.frz)
theorem ofG_I {H : Heap} {b : Nat} (l : List Int) (hl : l.length ≤ 100000) (hg : H.get b = some (.opt (l.map iV))) (n : Nat) (hn : n = l.length) : VCall Try.prog 17 [.gs b n 1] H (fun v K => v = setV (roI (ofL ltI l)) ∧ K = H) := by
  subst hn
  exact VCall.viewed (args' := [roI l]) (Q := fun v K => Frx K v (setV (roI (ofL ltI l)))) (.cons (View.gs hg (by simp) (nameless_map nameless_iV l)) .nil) (of0_I l hl) (fun v K h => h)
theorem ofS_I {H : Heap} {b n : Nat} {c : Option Nat} (l : List Int) (hl : l.length ≤ 100000) (hg : H.get b = some (.cells true (l.map iV))) (hn : n = l.length) : VCall Try.prog 17 [.sl b 0 n c 1] H (fun v K => v = setV (roI (ofL ltI l)) ∧ K = H) := by
  subst hn
  refine VCall.viewed (args' := [roI l]) (Q := fun v K => Frx K v (setV (roI (ofL ltI l)))) (.cons ?_ .nil) (of0_I l hl) (fun v K h => h)
  have h := View.sl (H := H) (b := b) (o := 0) (n := l.length) (z := 1) (c := c) (r := true) (vs := l.map iV) hg (by simp) (nameless_map nameless_iV l)
  rw [List.drop_zero, Nat.mul_one, List.take_of_length_le (by simp)] at h
  exact h
end Go.Proofs.Ytdgohabgjgdfeaa
