/- The virtual heap: reading and writing of named blocks, plain values. No program in sight. -/
import Derived.Test.YtbnemkdkeaiaoaaVc
import Derived.Laws.Append
namespace Go.Proofs.Ytbnemkdkeaiaoaa
open Go Go.RowKit
set_option linter.unusedSimpArgs false
set_option linter.unusedVariables false

theorem Pw.pre {R : VV → Value → Prop} {vs : List VV} {cs : List Value} (h : Pw R vs cs) : Pre R vs cs := fun i u hu => h.get hu
theorem Pre.mono {R R' : VV → Value → Prop} {vs : List VV} {cs : List Value} (h : Pre R vs cs) (hr : ∀ u c, R u c → R' u c) : Pre R' vs cs := fun i u hu => let ⟨c, hc, h⟩ := h i u hu; ⟨c, hc, hr _ _ h⟩
theorem Pre.length {R : VV → Value → Prop} {vs : List VV} {cs : List Value} (h : Pre R vs cs) : vs.length ≤ cs.length := by
  rcases Nat.eq_zero_or_pos vs.length with h0 | h0
  · omega
  · obtain ⟨c, hc, _⟩ := h (vs.length - 1) _ (List.getElem?_eq_getElem (by omega))
    have := (List.getElem?_eq_some_iff.1 hc).1
    omega
theorem Pre.set {R : VV → Value → Prop} {vs : List VV} {cs : List Value} (h : Pre R vs cs) (i : Nat) {v : VV} {x : Value} (hv : R v x) : Pre R (vs.set i v) (cs.set i x) := by
  intro j u hu
  have hl := h.length
  by_cases e : i = j
  · subst e
    have hi : i < vs.length := by
      have := (List.getElem?_eq_some_iff.1 hu).1
      simpa using this
    rw [List.getElem?_set_self hi] at hu
    injection hu with hu
    subst hu
    exact ⟨x, List.getElem?_set_self (by omega), hv⟩
  · rw [List.getElem?_set_ne e] at hu ⊢
    exact h j u hu
theorem Pre.take {R : VV → Value → Prop} {vs : List VV} {cs : List Value} (h : Pre R vs cs) (n : Nat) : Pre R (vs.take n) cs := by
  intro i u hu
  have hi : i < n := by
    have := (List.getElem?_eq_some_iff.1 hu).1
    simp at this; omega
  rw [List.getElem?_take_of_lt hi] at hu
  exact h i u hu
/-- A part of a row, read. -/
theorem Pre.part {R : VV → Value → Prop} {vs : List VV} {cs : List Value} (h : Pre R vs cs) (o n : Nat) (hn : o + n ≤ vs.length) : Pw R ((vs.drop o).take n) ((cs.drop o).take n) := by
  have hl := h.length
  refine ⟨by simp; omega, fun i u c hu hc => ?_⟩
  have hi : i < n := by
    have := (List.getElem?_eq_some_iff.1 hu).1
    simp at this; omega
  rw [List.getElem?_take_of_lt hi, List.getElem?_drop] at hu hc
  obtain ⟨c', hc', hr⟩ := h _ u hu
  rw [hc] at hc'
  injection hc' with hc'
  exact hc' ▸ hr

def setRun {α : Type} : List α → Nat → List α → List α
  | cs, _, [] => cs
  | cs, o, v :: r => setRun (cs.set o v) (o + 1) r
theorem length_setRun {α : Type} : ∀ (l cs : List α) (o : Nat), (setRun cs o l).length = cs.length
  | [], _, _ => rfl
  | v :: r, cs, o => by rw [setRun, length_setRun r]; simp
theorem getElem?_setRun {α : Type} : ∀ (l cs : List α) (o i : Nat), o + l.length ≤ cs.length → (setRun cs o l)[i]? = if o ≤ i ∧ i < o + l.length then l[i - o]? else cs[i]?
  | [], cs, o, i, h => by simp [setRun]; omega
  | v :: r, cs, o, i, h => by
    simp only [List.length_cons] at h
    rw [setRun, getElem?_setRun r _ (o + 1) i (by simp; omega)]
    by_cases h1 : i = o
    · subst h1
      rw [if_neg (by omega), List.getElem?_set_self (by omega), if_pos (by simp)]
      simp
    · rw [List.getElem?_set_ne (by omega)]
      by_cases h2 : o ≤ i ∧ i < o + (r.length + 1)
      · rw [if_pos (by omega), if_pos (by simpa using h2)]
        rw [show i - o = (i - (o + 1)) + 1 by omega]
        simp
      · rw [if_neg (by omega), if_neg (by simpa using h2)]
theorem setRun_eq {α : Type} (l cs : List α) (o : Nat) (h : o + l.length ≤ cs.length) : setRun cs o l = cs.take o ++ l ++ cs.drop (o + l.length) := by
  apply List.ext_getElem?
  intro i
  rw [getElem?_setRun l cs o i h]
  by_cases h1 : i < o
  · rw [if_neg (by omega), List.append_assoc, List.getElem?_append_left (by simp; omega), List.getElem?_take_of_lt h1]
  · by_cases h2 : i < o + l.length
    · rw [if_pos (by omega), List.append_assoc, List.getElem?_append_right (by simp; omega), List.getElem?_append_left (by simp; omega)]
      congr 1; simp; omega
    · rw [if_neg (by omega), List.append_assoc, List.getElem?_append_right (by simp; omega), List.getElem?_append_right (by simp; omega), List.getElem?_drop]
      congr 1; simp; omega
theorem Pre.setRun {R : VV → Value → Prop} : ∀ {l : List VV} {xs : List Value} (hl : Pw R l xs) {vs : List VV} {cs : List Value} (h : Pre R vs cs) (o : Nat), Pre R (setRun vs o l) (setRun cs o xs)
  | [], [], _, vs, cs, h, o => h
  | v :: r, x :: xs, hl, vs, cs, h, o => by
    have hv : R v x := hl.2 0 v x rfl rfl
    have ht : Pw R r xs := ⟨by have := hl.1; simpa using this, fun i u c hu hc => hl.2 (i + 1) u c (by simpa using hu) (by simpa using hc)⟩
    exact Pre.setRun ht (h.set o hv) (o + 1)
  | [], x :: xs, hl, _, _, _, _ => by have := hl.1; simp at this
  | v :: r, [], hl, _, _, _, _ => by have := hl.1; simp at this
/-- Written behind the first m of a row, within its block. -/
theorem Pre.splice {R : VV → Value → Prop} {l : List VV} {xs : List Value} (hl : Pw R l xs) {vs : List VV} {cs : List Value} (h : Pre R vs cs) (m : Nat) (hm : m ≤ vs.length) (hc : m + xs.length ≤ cs.length) : Pre R (vs.take m ++ l) (Go.Proofs.Ytbnemkdkeaiaoaa.setRun cs m xs) := by
  intro i u hu
  have h0 := hl.1
  rw [getElem?_setRun xs cs m i hc]
  by_cases h1 : i < m
  · rw [List.getElem?_append_left (by simp; omega), List.getElem?_take_of_lt h1] at hu
    rw [if_neg (by omega)]
    exact h i u hu
  · rw [List.getElem?_append_right (by simp; omega)] at hu
    have h2 : i - (vs.take m).length = i - m := by simp; omega
    rw [h2] at hu
    have h3 := (List.getElem?_eq_some_iff.1 hu).1
    rw [if_pos (by omega)]
    exact hl.get hu

theorem heap_setCell_self {w : World} {k o : Nat} {v : Value} {cs : Array Value} {t : TypeId} {fr : Nat × Nat} (h : w.heap[k]? = some (.cells cs t fr)) : (w.setCell ⟨k, o, none⟩ v).heap[k]? = some (.cells (cs.setIfInBounds o v) t fr) := by
  simp only [World.setCell, Array.getElem?_modify, if_true, h, Option.map_some]
  simp
theorem heap_setCells (k : Nat) (t : TypeId) (fr : Nat × Nat) : ∀ (xs : List Value) (o : Nat) (w : World) (cs : Array Value), w.heap[k]? = some (.cells cs t fr) →
    (w.setCells k o xs).heap[k]? = some (.cells (Go.Proofs.Ytbnemkdkeaiaoaa.setRun cs.toList o xs).toArray t fr) ∧ (∀ j, j ≠ k → (w.setCells k o xs).heap[j]? = w.heap[j]?) ∧ (w.setCells k o xs).heap.size = w.heap.size ∧
      (w.setCells k o xs).os = w.os ∧ (w.setCells k o xs).tape = w.tape ∧ (w.setCells k o xs).output = w.output
  | [], o, w, cs, h => ⟨by simpa [World.setCells, setRun] using h, fun _ _ => rfl, rfl, rfl, rfl, rfl⟩
  | x :: xs, o, w, cs, h => by
    have h1 := heap_setCell_self (o := o) (v := x) h
    obtain ⟨g1, g2, g3, g4, g5, g6⟩ := heap_setCells k t fr xs (o + 1) _ _ h1
    refine ⟨?_, fun j hj => ?_, ?_, g4, g5, g6⟩
    · rw [World.setCells, g1, setRun]; simp
    · rw [World.setCells, g2 j hj]; exact Below.heap_setCell _ _ _ _ (fun e => hj e)
    · rw [World.setCells, g3]; simp

section
variable {w w' : World} {Z : Nat → Prop} {ρ : Nat → Option (Nat × Nat)} {B : World} {M : Nat → Prop} {H : Heap}
/-- What a named block of cells is in the world. -/
theorem nofr {fr : Nat × Nat} {N i : Nat} (h : fr.1 = fr.2 ∨ fr = (N, N + 1)) (hi : i < N) : (fr.1 ≤ i && i < fr.2) = false := by
  rcases h with h | rfl
  · rw [h]; simp
  · simp; omega
theorem Rel.at_ (h : Rel B M Z ρ H w) {b : Nat} {r : Bool} {vs : List VV} (hb : H.get b = some (.cells r vs)) : ∃ k N cs t fr, ρ b = some (k, N) ∧ w.heap[k]? = some (.cells cs t fr) ∧ cs.size = N ∧ Pre (VRel w Z ρ) vs cs.toList ∧ (fr.1 = fr.2 ∨ fr = (N, N + 1)) := by
  obtain ⟨k, N, o, h1, h2, ⟨cs, t, fr, rfl, h3, h4, h5⟩, _⟩ := h.objC hb rfl
  exact ⟨k, N, cs, t, fr, h1, h2, h3, h4, h5⟩
theorem cell_of_cells {k : Nat} {cs : Array Value} {t : TypeId} {fr : Nat × Nat} (h : w.heap[k]? = some (.cells cs t fr)) (i : Nat) : w.cell? ⟨k, i, none⟩ = cs[i]? := by
  unfold World.cell?; simp [h]
theorem frozen_of_cells {k : Nat} {cs : Array Value} {t : TypeId} {fr : Nat × Nat} (h : w.heap[k]? = some (.cells cs t fr)) (i : Nat) : w.frozen? ⟨k, i, none⟩ = (fr.1 ≤ i && i < fr.2) := by
  unfold World.frozen?; obtain ⟨a, b⟩ := fr; simp [h]
theorem add_mk (k o n : Nat) : (⟨k, o, none⟩ : Addr).add n = ⟨k, o + n, none⟩ := by
  unfold Addr.add; split <;> simp_all
/-- A store of cells into a named block. -/
theorem Rel.write (h : Rel B M Z ρ H w) {b : Nat} {vs l : List VV} {xs : List Value} (hb : H.get b = some (.cells true vs)) {k N : Nat} (hk : ρ b = some (k, N)) (hl : Pw (VRel w Z ρ) l xs) (h1 : ∀ x ∈ xs, x.oneCell' = true) (o : Nat)
    {P : Program} (hfit : o + l.length ≤ vs.length) :
    (storeCells ⟨k, o, none⟩ xs).run P w = .ok () (w.setCells k o xs) ∧ Ext (own B M) H.next Z ρ w (H.set b (.cells true (Go.Proofs.Ytbnemkdkeaiaoaa.setRun vs o l))).next Z ρ (w.setCells k o xs) ∧ Rel B M Z ρ (H.set b (.cells true (Go.Proofs.Ytbnemkdkeaiaoaa.setRun vs o l))) (w.setCells k o xs) := by
  obtain ⟨k', N', cs, t, fr, g1, g2, g3, g4, g5⟩ := h.at_ hb
  rw [hk] at g1; injection g1 with g1; injection g1 with g1 g1'; subst g1 g1'
  have hlen := g4.length
  have hle : o + xs.length ≤ cs.size := by have := hl.1; simp at hlen; omega
  obtain ⟨s1, s2, s3, s4, s5, s6⟩ := heap_setCells k t fr xs o w cs g2
  have hrun := run_storeCells_cells (P := P) k o xs 0 w (fun j hj => by rw [cell_of_cells g2]; simp; omega) (fun j hj => by rw [frozen_of_cells g2]; exact nofr g5 (by omega)) h1
  have hz : ∀ j, Z j → j ≠ k := by
    intro j hj e
    obtain ⟨_, _, _, q1, _, _, q4, _⟩ := h.objC hb rfl
    rw [hk] at q1; injection q1 with q1; injection q1 with q1 _
    exact q4 (q1 ▸ e ▸ hj)
  have e0 : Ext (own B M) 0 Z ρ w 0 Z ρ (w.setCells k o xs) := ⟨Nat.le_refl _, fun _ _ => rfl, fun _ h => h, fun _ _ h => h, fun j hj => s2 j (hz j hj), by omega, fun _ h => .inl h⟩
  refine ⟨by simpa using hrun, ?_⟩
  refine h.turn hb hk rfl rfl s4 s5 s6 s3 s2 s1 ⟨_, t, fr, rfl, ?_, ?_, ?_⟩
  · simp [length_setRun]; exact g3
  · simpa using Pre.setRun (hl.mono fun _ _ h => h.ext e0) (g4.mono fun _ _ h => h.ext e0) o
  · exact g5
/-- A store behind the first m cells of a named block, within its room: the block gets a new name. -/
theorem Rel.grow (h : Rel B M Z ρ H w) {b : Nat} {vs l : List VV} {xs : List Value} (hb : H.get b = some (.cells true vs)) {k N : Nat} (hk : ρ b = some (k, N)) (hl : Pw (VRel w Z ρ) l xs) (h1 : ∀ x ∈ xs, x.oneCell' = true) (m : Nat)
    {P : Program} (hm : m ≤ vs.length) (hfit : m + xs.length ≤ N) :
    (storeCells ⟨k, m, none⟩ xs).run P w = .ok () (w.setCells k m xs) ∧ Ext (own B M) H.next Z ρ w ((H.del b).add (.cells true (vs.take m ++ l))).next Z (upd ρ H.next (k, N)) (w.setCells k m xs) ∧ Rel B M Z (upd ρ H.next (k, N)) ((H.del b).add (.cells true (vs.take m ++ l))) (w.setCells k m xs) := by
  obtain ⟨k', N', cs, t, fr, g1, g2, g3, g4, g5⟩ := h.at_ hb
  rw [hk] at g1; injection g1 with g1; injection g1 with g1 g1'; subst g1 g1'
  obtain ⟨s1, s2, s3, s4, s5, s6⟩ := heap_setCells k t fr xs m w cs g2
  have hrun := run_storeCells_cells (P := P) k m xs 0 w (fun j hj => by rw [cell_of_cells g2]; simp; omega) (fun j hj => by rw [frozen_of_cells g2]; exact nofr g5 (by omega)) h1
  have hz : ∀ j, Z j → j ≠ k := by
    intro j hj e
    obtain ⟨_, _, _, q1, _, _, q4, _⟩ := h.objC hb rfl
    rw [hk] at q1; injection q1 with q1; injection q1 with q1 _
    exact q4 (q1 ▸ e ▸ hj)
  have e0 : Ext (own B M) 0 Z ρ w 0 Z ρ (w.setCells k m xs) := ⟨Nat.le_refl _, fun _ _ => rfl, fun _ h => h, fun _ _ h => h, fun j hj => s2 j (hz j hj), by omega, fun _ h => .inl h⟩
  refine ⟨by simpa using hrun, ?_⟩
  refine h.rename hb hk rfl s4 s5 s6 s3 s2 s1 rfl ⟨_, t, fr, rfl, ?_, ?_, ?_⟩
  · simp [length_setRun]; exact g3
  · simpa using Pre.splice (hl.mono fun _ _ h => h.ext e0) (g4.mono fun _ _ h => h.ext e0) m hm (by simp; omega)
  · exact g5
/-- New cells. -/
theorem Rel.row (h : Rel B M Z ρ H w) {l : List VV} {xs : Array Value} (hl : Pre (VRel w Z ρ) l xs.toList) (t : TypeId) :
    Ext (own B M) H.next Z ρ w (H.add (.cells true l)).next Z (upd ρ H.next (w.heap.size, xs.size)) (w.alloc (.cells xs t)) ∧ Rel B M Z (upd ρ H.next (w.heap.size, xs.size)) (H.add (.cells true l)) (w.alloc (.cells xs t)) :=
  h.alloc _ _ _ ⟨xs, t, (0, 0), rfl, rfl, hl, .inl rfl⟩
/-- What is read of a slice of a named block. -/
theorem Rel.read (h : Rel B M Z ρ H w) {b : Nat} {r : Bool} {vs : List VV} (hb : H.get b = some (.cells r vs)) {k N : Nat} (hk : ρ b = some (k, N)) (o n : Nat) (hfit : o + n ≤ vs.length) :
    ∃ ds : List Value, Pw (VRel w Z ρ) ((vs.drop o).take n) ds ∧ ds.length = n ∧ ∀ j v, ds[j]? = some v → w.cell? ((⟨k, o, none⟩ : Addr).add j) = some v := by
  obtain ⟨k', N', cs, t, fr, g1, g2, g3, g4, g5⟩ := h.at_ hb
  rw [hk] at g1; injection g1 with g1; injection g1 with g1 g1'; subst g1 g1'
  have hp := g4.part o n hfit
  have hlen := g4.length
  refine ⟨_, hp, by simp at hlen ⊢; omega, fun j v hv => ?_⟩
  have hj : j < n := by
    have := (List.getElem?_eq_some_iff.1 hv).1
    simp at this; omega
  rw [List.getElem?_take_of_lt hj, List.getElem?_drop] at hv
  rw [add_mk, cell_of_cells g2]
  simpa using hv
end
end Go.Proofs.Ytbnemkdkeaiaoaa
