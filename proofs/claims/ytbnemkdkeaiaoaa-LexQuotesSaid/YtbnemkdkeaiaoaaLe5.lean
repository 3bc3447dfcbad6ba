/- strings.Replacer: what build makes. -/
import Derived.Test.YtbnemkdkeaiaoaaLe3
namespace Go.Proofs.Ytbnemkdkeaiaoaa
open Go Go.RowKit
set_option linter.unusedSimpArgs false
set_option linter.unusedVariables false
set_option maxRecDepth 100000
set_option maxHeartbeats 8000000
theorem FrxL.pre {K : Heap} {B w : World} {Z : Nat → Prop} {ρ ρ2 : Nat → Option (Nat × Nat)} (hr : Rel B (fun _ => False) Z ρ K w) {vs us : List VV} (h : FrxL K vs us) : ∀ {cs : List Value}, Pw (VRel w Z ρ) vs cs → Pw (VRel w (fun k => B.heap.size ≤ k ∧ k < w.heap.size) ρ2) us cs := by
  induction h with
  | nil => intro cs hp; exact ⟨hp.1, fun i u c hu => by simp at hu⟩
  | @cons v u r s hvu _ ih =>
    intro cs hp
    match cs, hp with
    | c :: ct, hp =>
      have h0 := hp.2 0 v c rfl rfl
      have ht : Pw (VRel w Z ρ) r ct := ⟨by have := hp.1; simpa using this, fun i u c hu hc => hp.2 (i + 1) u c (by simpa using hu) (by simpa using hc)⟩
      exact Pw.cons (hvu B w Z ρ ρ2 c hr h0) (ih ht)
    | [], hp => have := hp.1; simp at this
theorem Frx.ptr {K : Heap} {b o : Nat} {vs us : List VV} (hg : K.get b = some (.cells true vs)) (h : FrxL K vs us) : Frx K (.ptr b o) (.rp us o) := fun B w Z ρ ρ2 y hr hv => by
  cases hv with
  | ptr hk =>
    obtain ⟨ds, g1, g2, g3⟩ := hr.read hg hk 0 vs.length (by omega)
    rw [List.drop_zero, List.take_of_length_le (Nat.le_refl _)] at g1
    obtain ⟨k', N', x, q1, q2, q3, q4, q5⟩ := hr.objC hg rfl
    rw [hk] at q1
    injection q1 with q1
    injection q1 with q1 q1'
    subst q1 q1'
    have hnew := (q5 rfl).resolve_right id
    have hlt := hr.lt hg hk
    have hp := h.pre (ρ2 := ρ2) hr g1
    have key := VRel.rp (w := w) (Z := fun k => B.heap.size ≤ k ∧ k < w.heap.size) (ρ := ρ2) (o := 0) (o' := o) (vs := us) (cs := ds) ⟨hnew, hlt⟩ hp.1 (fun i hi => by
      have := g3 i (ds[i]'hi) (List.getElem?_eq_getElem hi)
      rw [add_mk] at this
      rw [this, List.getElem?_eq_getElem hi]) hp.2
    rw [Nat.zero_add] at key
    exact key
theorem Frx.ifc {K : Heap} {t : TypeId} {v u : VV} (h : Frx K v u) : Frx K (.ifc t v) (.ifc t u) := fun B w Z ρ ρ2 y hr hv => by
  cases hv with
  | ifc hx => exact .ifc (h B w Z ρ ρ2 _ hr hx)
theorem View.ptr {H : Heap} {b o : Nat} {r : Bool} {vs us : List VV} (hg : H.get b = some (.cells r vs)) (h : ViewL H vs us) : View H (.ptr b o) (.rp us o) := fun B w M Z ρ y hr hv => by
  cases hv with
  | ptr hk =>
    obtain ⟨ds, g1, g2, g3⟩ := hr.read hg hk 0 vs.length (by omega)
    rw [List.drop_zero, List.take_of_length_le (Nat.le_refl _)] at g1
    have hlt := hr.lt hg hk
    have hp := h.pw hr g1
    have key := VRel.rp (w := w) (Z := fun k => k < w.heap.size) (ρ := fun _ => none) (o := 0) (o' := o) (vs := us) (cs := ds) hlt hp.1 (fun i hi => by
      have := g3 i (ds[i]'hi) (List.getElem?_eq_getElem hi)
      rw [add_mk] at this
      rw [this, List.getElem?_eq_getElem hi]) hp.2
    rw [Nat.zero_add] at key
    exact key
def oldL : List VV := [strV [92], strV [92, 92], strV [34], strV [92, 34], strV [10], strV [92, 110]]
/-- A Replacer's cells: the Once (done, the lock's state and sema), what was built, the pairs. -/
def repV (d l : Int) (r o : VV) : List VV := [.sc (.int .u32 d), .sc (.int .i32 l), .sc (.int .u32 0), r, o]
def nilS : VV := .sc (.slice none 0 0)
def rowN (a b c d : VV) : List VV := List.replicate 10 nilS ++ [a] ++ List.replicate 23 nilS ++ [b] ++ List.replicate 57 nilS ++ [c] ++ List.replicate 163 nilS ++ [d]
def rowB : List VV := rowN (.sl 4 0 2 none 1) (.sl 7 0 2 none 1) (.sl 10 0 2 none 1) (.sl 0 0 3 (some 3) 1)
def rowF : List VV := rowN (roB [92, 110]) (roB [92, 34]) (roB [92, 92]) (.ro 3 [strV [10], strV [34], strV [92]])
def heapB : Heap := ⟨[(10, .cells true ([92, 92].map bV)), (9, .cells true [strV [92]]), (8, .cells true ([92].map bV)), (7, .cells true ([92, 34].map bV)), (6, .cells true [strV [34]]), (5, .cells true ([34].map bV)), (4, .cells true ([92, 110].map bV)), (3, .cells true [strV [10]]), (2, .cells true ([10].map bV)), (1, .cells true rowB), (0, .cells true [strV [10], strV [34], strV [92]])], 11⟩
theorem build_run : vcallW Try.prog (vcode Try.prog 60) 28 [.rp (repV 0 1 (.sc .nilIface) (.ro 6 oldL)) 0] ⟨[], 0⟩ = some (.ifc 91 (.ptr 1 0), heapB) := by kernel_rfl
theorem FrxL.app {K : Heap} {a a' b b' : List VV} (h : FrxL K a a') (g : FrxL K b b') : FrxL K (a ++ b) (a' ++ b') := by
  induction h with
  | nil => exact g
  | cons x _ ih => exact .cons x ih
theorem FrxL.nils {K : Heap} : ∀ n, FrxL K (List.replicate n nilS) (List.replicate n nilS)
  | 0 => .nil
  | n + 1 => .cons (Frx.of (exact_sc _)) (FrxL.nils n)
theorem FrxL.row {K : Heap} {a b c d a' b' c' d' : VV} (h1 : Frx K a a') (h2 : Frx K b b') (h3 : Frx K c c') (h4 : Frx K d d') : FrxL K (rowN a b c d) (rowN a' b' c' d') :=
  ((((((((FrxL.nils 10).app (.cons h1 .nil)).app (.nils 23)).app (.cons h2 .nil)).app (.nils 57)).app (.cons h3 .nil)).app (.nils 163)).app (.cons h4 .nil))
theorem exact_bVs (x : List UInt8) : ∀ v ∈ x.map bV, Exact v := fun v hv => by
  obtain ⟨c, _, rfl⟩ := List.mem_map.1 hv
  exact exact_sc _
theorem frx_ownL {K : Heap} {b n : Nat} {l : List UInt8} (hg : K.get b = some (.cells true (l.map bV))) (hn : n = l.length) : Frx K (.sl b 0 n none 1) (roB l) := by
  subst hn
  have := Frx.sl (K := K) (b := b) (o := 0) (n := l.length) (z := 1) (c := none) hg (by simp) (exact_bVs l)
  rw [List.drop_zero, Nat.mul_one, List.take_of_length_le (by simp)] at this
  unfold roB
  exact this
theorem frx_res : Frx heapB (.ifc 91 (.ptr 1 0)) (.ifc 91 (.rp rowF 0)) :=
  .ifc (Frx.ptr (vs := rowB) rfl (FrxL.row (frx_ownL (l := [92, 110]) rfl rfl) (frx_ownL (l := [92, 34]) rfl rfl) (frx_ownL (l := [92, 92]) rfl rfl)
    (Frx.sl (K := heapB) (b := 0) (o := 0) (n := 3) (z := 1) (c := some 3) (vs := [strV [10], strV [34], strV [92]]) rfl (by decide) (by
      intro v hv
      simp only [List.mem_cons, List.not_mem_nil, or_false] at hv
      rcases hv with rfl | rfl | rfl <;> exact exact_sc _))))
theorem nameless_old : ∀ v ∈ oldL, Nameless v := by
  intro v hv
  simp only [oldL, List.mem_cons, List.not_mem_nil, or_false] at hv
  rcases hv with rfl | rfl | rfl | rfl | rfl | rfl <;> exact nameless_strV _
/-- build, at a Replacer that was just made, its lock taken. -/
theorem build_call {H : Heap} {b m : Nat} (hb : H.get b = some (.cells true (repV 0 1 (.sc .nilIface) (.sl m 0 6 none 1)))) (hm : H.get m = some (.cells true oldL)) : VCall Try.prog 28 [.ptr b 0] H (fun v K => v = .ifc 91 (.rp rowF 0) ∧ K = H) := by
  refine VCall.viewed (args' := [.rp (repV 0 1 (.sc .nilIface) (.ro 6 oldL)) 0]) (.cons (View.ptr hb (.cons (View.of (nameless_sc _)) (.cons (View.of (nameless_sc _)) (.cons (View.of (nameless_sc _)) (.cons (View.of (nameless_sc _)) (.cons ?_ .nil)))))) .nil) (VCall.run mixed 60 build_run) (fun v K e => by
    obtain ⟨rfl, rfl⟩ := e
    exact frx_res)
  exact View.sl (H := H) (b := m) (o := 0) (n := 6) (z := 1) (c := none) hm (by decide) nameless_old
theorem row_at10 : rowF[10]? = some (roB [92, 110]) := rfl
theorem row_at34 : rowF[34]? = some (roB [92, 34]) := rfl
theorem row_at92 : rowF[92]? = some (roB [92, 92]) := rfl
theorem row_at256 : rowF[256]? = some (.ro 3 [strV [10], strV [34], strV [92]]) := rfl
theorem row_len : rowF.length = 257 := rfl
theorem row_other {n : Nat} (hn : n < 256) (h1 : n ≠ 10) (h2 : n ≠ 34) (h3 : n ≠ 92) : rowF[n]? = some nilS := by
  unfold rowF rowN
  simp only [List.append_assoc]
  rcases Nat.lt_or_ge n 10 with h | h
  · rw [List.getElem?_append_left (by simpa using h), List.getElem?_replicate, if_pos h]
  rw [List.getElem?_append_right (by simpa using h), List.length_replicate, List.getElem?_append_right (by simp; omega)]
  simp only [List.length_cons, List.length_nil]
  rcases Nat.lt_or_ge n 34 with h' | h'
  · rw [List.getElem?_append_left (by simp; omega), List.getElem?_replicate, if_pos (by omega)]
  rw [List.getElem?_append_right (by simp; omega), List.length_replicate, List.getElem?_append_right (by simp; omega)]
  simp only [List.length_cons, List.length_nil]
  rcases Nat.lt_or_ge n 92 with h'' | h''
  · rw [List.getElem?_append_left (by simp; omega), List.getElem?_replicate, if_pos (by omega)]
  rw [List.getElem?_append_right (by simp; omega), List.length_replicate, List.getElem?_append_right (by simp; omega)]
  simp only [List.length_cons, List.length_nil]
  rw [List.getElem?_append_left (by simp; omega), List.getElem?_replicate, if_pos (by omega)]
end Go.Proofs.Ytbnemkdkeaiaoaa
