/- Calls apart from the caller's heap. Over any program. -/
import Derived.Test.YtbnemkdkeaiaoaaV3
namespace Go.Proofs.Ytbnemkdkeaiaoaa
open Go Go.RowKit
set_option linter.unusedSimpArgs false
set_option linter.unusedVariables false
/-- Values that name nothing: what they stand for doesn't hang on names. -/
def Nameless (v : VV) : Prop := ∀ (w : World) (Z : Nat → Prop) (ρ ρ' : Nat → Option (Nat × Nat)) (y : Value), VRel w Z ρ v y → VRel w Z ρ' v y
theorem nameless_sc (x : Value) : Nameless (.sc x) := fun w Z ρ ρ' y h => by cases h with | sc h => exact .sc h
theorem nameless_bV (b : UInt8) : Nameless (bV b) := nameless_sc _
theorem nameless_ro {n : Nat} {vs : List VV} (h : ∀ v ∈ vs, Nameless v) : Nameless (.ro n vs) := fun w Z ρ ρ' y hr => by
  cases hr with
  | ro hZ hn hlen hcell hrel => exact .ro hZ hn hlen hcell fun i u c hu hc => h u (List.mem_of_getElem? hu) _ _ _ _ _ (hrel i u c hu hc)
  | ro0 => exact .ro0
theorem nameless_roB (l : List UInt8) : Nameless (roB l) := nameless_ro fun v hv => by
  obtain ⟨b, _, rfl⟩ := List.mem_map.1 hv
  exact nameless_bV b
theorem nameless_tp {vs : List VV} (h : ∀ v ∈ vs, Nameless v) : Nameless (.tp vs) := fun w Z ρ ρ' y hr => by
  cases hr with
  | tp h1 r1 => exact .tp h1 fun i u c hu hc => h u (List.mem_of_getElem? hu) _ _ _ _ _ (r1 i u c hu hc)
/-- Values that are exact: they hang on nothing. -/
def Exact (v : VV) : Prop := ∀ (w w' : World) (Z Z' : Nat → Prop) (ρ ρ' : Nat → Option (Nat × Nat)) (y : Value), VRel w Z ρ v y → VRel w' Z' ρ' v y
theorem exact_sc (x : Value) : Exact (.sc x) := fun w w' Z Z' ρ ρ' y h => by cases h with | sc h => exact .sc h
theorem exact_tp {vs : List VV} (h : ∀ v ∈ vs, Exact v) : Exact (.tp vs) := fun w w' Z Z' ρ ρ' y hr => by
  cases hr with
  | tp h1 r1 => exact .tp h1 fun i u c hu hc => h u (List.mem_of_getElem? hu) _ _ _ _ _ _ _ (r1 i u c hu hc)
section
variable {P : Program} {f : FuncId} {args : List VV}
theorem rel_apart {B w : World} {M Z : Nat → Prop} {ρ : Nat → Option (Nat × Nat)} {H : Heap} (h : Rel B M Z ρ H w) : Rel w (fun _ => False) Z (fun _ => none) ⟨[], 0⟩ w :=
  ⟨h.globApart, rfl, rfl, rfl, Nat.le_refl _, fun _ _ _ => rfl, fun _ _ => rfl, fun b x hx => by simp [Heap.get, hget] at hx, fun b b' k N N' x x' hx => by simp [Heap.get, hget] at hx, fun b x hx => by simp [Heap.get, hget] at hx, h.zlt⟩
/-- A call with an empty heap is one with any; what it hands back names nothing. -/
theorem VCall.apart {H : Heap} {Q : VV → Heap → Prop} (ha : ∀ v ∈ args, Nameless v) (h : VCall P f args ⟨[], 0⟩ Q) (hv : ∀ v K, Q v K → Exact v) : VCall P f args H (fun v K => (∃ K', Q v K') ∧ K = H) := fun B M Z ρ w ra h1 h2 => by
  have hp : Pw (VRel w Z (fun _ => none)) args ra.toList := ⟨h2.1, fun i u c hu hc => ha u (List.mem_of_getElem? hu) _ _ _ _ _ (h2.2 i u c hu hc)⟩
  refine (h w (fun _ => False) Z (fun _ => none) w ra (rel_apart h1) hp).mono ?_
  rintro e w' ⟨v', v, H', Z', ρ', rfl, q, e1, r1, v1⟩
  obtain ⟨e2, r2⟩ := h1.step (Z' := Z) r1.os r1.tape r1.output r1.size (fun k hk => r1.frame k hk id) (fun _ h => h) (fun _ h => .inl h)
  exact ⟨v', v, H, Z, ρ, rfl, ⟨⟨H', q⟩, rfl⟩, e2, r2, hv v H' q _ _ _ _ _ _ _ v1⟩
/-- A closed run that answers a plain value. -/
def isV (x : Option (VV × Heap)) (u : VV) : Bool := match x with
  | some (v, _) => veq v u
  | none => false
theorem VCall.closed {H : Heap} (hm : P.follows .mixedOrders = true) (n : Nat) {u : Value} (h : isV (vcallW P (vcode P n) f [] ⟨[], 0⟩) (.sc u) = true) : VCall P f [] H (fun v K => v = .sc u ∧ K = H) := by
  unfold isV at h
  split at h
  · rename_i v K hr
    have := veq_eq h
    subst this
    refine (VCall.apart (Q := fun x K' => x = .sc u ∧ K' = K) (fun v hv => by simp at hv) (VCall.run hm n hr) (fun v K e => e.1 ▸ exact_sc u)).mono ?_
    rintro v K' ⟨⟨_, e, _⟩, e2⟩
    exact ⟨e, e2⟩
  · simp at h
/-- The frame of a statement on plain arguments: what it answers, and that nothing older has changed. -/
theorem VCall.law {b : Bool} (h : VCall P f args ⟨[], 0⟩ (fun v _ => v = .sc (.bool b))) (w : World) (ra : Array Value) (hp : Pw (VRel w (fun k => k < w.heap.size) (fun _ => none)) args ra.toList) (hg : Glob w (fun _ => False)) :
    Calls P f ra w (fun e w' => e = .returned (.bool b) ∧ Below w.heap.size w w') := by
  refine (h w (fun _ => False) (fun k => k < w.heap.size) (fun _ => none) w ra ⟨hg, rfl, rfl, rfl, Nat.le_refl _, fun _ _ _ => rfl, fun _ _ => rfl, fun b x hx => by simp [Heap.get, hget] at hx, fun b b' k N N' x x' hx => by simp [Heap.get, hget] at hx, fun b x hx => by simp [Heap.get, hget] at hx, fun _ h => h⟩ hp).mono ?_
  rintro e w' ⟨v', v, H', Z', ρ', rfl, rfl, e1, r1, v1⟩
  cases v1
  exact ⟨rfl, r1.below⟩
/-- What a call hands back, looked at when it is over: new rows are taken as rows that nobody writes any more. -/
def Frz (K : Heap) (v u : VV) : Prop := ∀ (B w : World) (Z : Nat → Prop) (ρ ρ2 : Nat → Option (Nat × Nat)) (y : Value), Rel B (fun _ => False) Z ρ K w → VRel w Z ρ v y → VRel w (fun k => Z k ∨ (B.heap.size ≤ k ∧ k < w.heap.size)) ρ2 u y
theorem VRel.zmono {w : World} {Z Z' : Nat → Prop} {ρ : Nat → Option (Nat × Nat)} {v : VV} {y : Value} (h : VRel w Z ρ v y) (hz : ∀ k, Z k → Z' k) : VRel w Z' ρ v y := by
  induction h with
  | sc h => exact .sc h
  | ptr h => exact .ptr h
  | sl h hn hc hz => exact .sl h hn hc hz
  | gs0 => exact .gs0
  | gs h hn hz h0 => exact .gs h hn hz h0
  | ro hZ hn hlen hcell _ ih => exact .ro (hz _ hZ) hn hlen hcell ih
  | ro0 => exact .ro0
  | rp hZ hlen hcell _ ih => exact .rp (hz _ hZ) hlen hcell ih
  | fn h1 _ h2 _ i1 i2 => exact .fn h1 i1 h2 i2
  | yl h => exact .yl h
  | ag h1 _ ih => exact .ag h1 ih
  | tp h1 _ ih => exact .tp h1 ih
  | ifc _ ih => exact .ifc ih
  | junk => exact .junk
theorem Frz.of {K : Heap} {v : VV} (h : Nameless v) : Frz K v v := fun B w Z ρ ρ2 y _ hv => (h w Z ρ ρ2 y hv).zmono fun _ h => .inl h
theorem Frz.nil0 {K : Heap} {c : Nat} : Frz K (.sc (.slice none 0 c)) (.ro 0 []) := fun B w Z ρ ρ2 y _ hv => by
  cases hv
  exact .ro0
theorem Frz.sl {K : Heap} {b o n z : Nat} {c : Option Nat} {vs : List VV} (hg : K.get b = some (.cells true vs)) (hl : o + n * z ≤ vs.length) (hn : ∀ v ∈ vs, Nameless v) : Frz K (.sl b o n c z) (.ro n ((vs.drop o).take (n * z))) := fun B w Z ρ ρ2 y hr hv => by
  cases hv with
  | sl hk hcap hc hzz =>
    obtain ⟨ds, g1, g2, g3⟩ := hr.read hg hk o (n * z) hl
    obtain ⟨k', N', x, q1, q2, q3, q4, q5⟩ := hr.objC hg rfl
    rw [hk] at q1
    injection q1 with q1
    injection q1 with q1 q1'
    subst q1 q1'
    have hnew := (q5 rfl).resolve_right id
    have hlt := hr.lt hg hk
    refine .ro (cs := ds) (.inr ⟨hnew, hlt⟩) hcap g1.1 (fun i hi => ?_) (fun i u c' hu hc' => ?_)
    · have := g3 i (ds[i]'hi) (List.getElem?_eq_getElem hi)
      rw [add_mk] at this
      rw [this, List.getElem?_eq_getElem hi]
    · have hm : u ∈ vs := List.mem_of_mem_drop (List.mem_of_mem_take (List.mem_of_getElem? hu))
      exact ((hn u hm) _ _ _ _ _ (g1.2 i u c' hu hc')).zmono fun _ h => .inl h
/-- One by one. -/
inductive FrzL (K : Heap) : List VV → List VV → Prop
  | nil : FrzL K [] []
  | cons {v u : VV} {r s : List VV} (h : Frz K v u) (t : FrzL K r s) : FrzL K (v :: r) (u :: s)
theorem Frz.tp {K : Heap} : ∀ {vs us : List VV}, FrzL K vs us → Frz K (.tp vs) (.tp us) := fun {vs us} h B w Z ρ ρ2 y hr hv => by
  cases hv with
  | @tp _ cs h1 r1 =>
    obtain ⟨cs⟩ := cs
    simp only at h1 r1
    have key : ∀ {vs us : List VV} {cs : List Value}, FrzL K vs us → Pw (VRel w Z ρ) vs cs → Pw (VRel w (fun k => Z k ∨ (B.heap.size ≤ k ∧ k < w.heap.size)) ρ2) us cs := by
      intro vs us cs h
      induction h generalizing cs with
      | nil => intro hp; exact ⟨hp.1, fun i u c hu => by simp at hu⟩
      | @cons v u r s hvu _ ih =>
        intro hp
        match cs, hp with
        | c :: ct, hp =>
          have h0 := hp.2 0 v c rfl rfl
          have ht : Pw (VRel w Z ρ) r ct := ⟨by have := hp.1; simpa using this, fun i u c hu hc => hp.2 (i + 1) u c (by simpa using hu) (by simpa using hc)⟩
          exact Pw.cons (hvu B w Z ρ ρ2 c hr h0) (ih ht)
    have := key h ⟨h1, r1⟩
    exact .tp this.1 this.2
/-- A call apart, with arguments that name nothing; what it hands back, frozen. -/
theorem VCall.frozen {H : Heap} {Q : VV → Heap → Prop} {u : VV} (ha : ∀ v ∈ args, Nameless v) (h : VCall P f args ⟨[], 0⟩ Q) (hv : ∀ v K, Q v K → Frz K v u) : VCall P f args H (fun v K => v = u ∧ K = H) := fun B M Z ρ w ra h1 h2 => by
  have hp : Pw (VRel w Z (fun _ => none)) args ra.toList := ⟨h2.1, fun i u c hu hc => ha u (List.mem_of_getElem? hu) _ _ _ _ _ (h2.2 i u c hu hc)⟩
  refine (h w (fun _ => False) Z (fun _ => none) w ra (rel_apart h1) hp).mono ?_
  rintro e w' ⟨v', v, H', Z', ρ', rfl, q, e1, r1, v1⟩
  obtain ⟨e2, r2⟩ := h1.step (Z' := fun k => Z k ∨ (w.heap.size ≤ k ∧ k < w'.heap.size)) r1.os r1.tape r1.output r1.size (fun k hk => r1.frame k hk id) (fun _ h => .inl h) (fun _ h => h)
  refine ⟨v', u, H, _, ρ, rfl, ⟨rfl, rfl⟩, e2, r2, ?_⟩
  refine (hv v H' q w w' Z' ρ' ρ v' r1 v1).zmono fun k hk => ?_
  rcases hk with hk | hk
  · rcases e1.znew k hk with h | h | h | h
    · exact .inl h
    · exact .inr ⟨h, r1.zlt k hk⟩
    · exact .inr ⟨h, r1.zlt k hk⟩
    · exact h.elim
  · exact .inr hk
/-- How values of the caller's heap look to a call apart: rows that nobody writes. -/
def View (H : Heap) (v u : VV) : Prop := ∀ (B w : World) (M Z : Nat → Prop) (ρ : Nat → Option (Nat × Nat)) (y : Value), Rel B M Z ρ H w → VRel w Z ρ v y → VRel w (fun k => k < w.heap.size) (fun _ => none) u y
theorem View.of {H : Heap} {v : VV} (h : Nameless v) : View H v v := fun B w M Z ρ y hr hv => (h w Z ρ _ y hv).zmono hr.zlt
theorem View.sl {H : Heap} {b o n z : Nat} {c : Option Nat} {r : Bool} {vs : List VV} (hg : H.get b = some (.cells r vs)) (hl : o + n * z ≤ vs.length) (hn : ∀ v ∈ vs, Nameless v) : View H (.sl b o n c z) (.ro n ((vs.drop o).take (n * z))) := fun B w M Z ρ y hr hv => by
  cases hv with
  | sl hk hcap hc hzz =>
    obtain ⟨ds, g1, g2, g3⟩ := hr.read hg hk o (n * z) hl
    have hlt := hr.lt hg hk
    refine .ro (cs := ds) hlt hcap g1.1 (fun i hi => ?_) (fun i u c' hu hc' => ?_)
    · have := g3 i (ds[i]'hi) (List.getElem?_eq_getElem hi)
      rw [add_mk] at this
      rw [this, List.getElem?_eq_getElem hi]
    · have hm : u ∈ vs := List.mem_of_mem_drop (List.mem_of_mem_take (List.mem_of_getElem? hu))
      exact ((hn u hm) _ _ _ _ _ (g1.2 i u c' hu hc')).zmono hr.zlt
inductive ViewL (H : Heap) : List VV → List VV → Prop
  | nil : ViewL H [] []
  | cons {v u : VV} {r s : List VV} (h : View H v u) (t : ViewL H r s) : ViewL H (v :: r) (u :: s)
theorem ViewL.pw {B w : World} {M Z : Nat → Prop} {ρ : Nat → Option (Nat × Nat)} {H : Heap} (hr : Rel B M Z ρ H w) {vs us : List VV} (h : ViewL H vs us) : ∀ {cs : List Value}, Pw (VRel w Z ρ) vs cs → Pw (VRel w (fun k => k < w.heap.size) (fun _ => none)) us cs := by
  induction h with
  | nil => intro cs hp; exact ⟨hp.1, fun i u c hu => by simp at hu⟩
  | @cons v u r s hvu _ ih =>
    intro cs hp
    match cs, hp with
    | c :: ct, hp =>
      have h0 := hp.2 0 v c rfl rfl
      have ht : Pw (VRel w Z ρ) r ct := ⟨by have := hp.1; simpa using this, fun i u c hu hc => hp.2 (i + 1) u c (by simpa using hu) (by simpa using hc)⟩
      exact Pw.cons (hvu _ _ _ _ _ _ hr h0) (ih ht)
/-- What is exact, or new and of exact parts, when a call is over. -/
def Frx (K : Heap) (v u : VV) : Prop := ∀ (B w : World) (Z : Nat → Prop) (ρ ρ2 : Nat → Option (Nat × Nat)) (y : Value), Rel B (fun _ => False) Z ρ K w → VRel w Z ρ v y → VRel w (fun k => B.heap.size ≤ k ∧ k < w.heap.size) ρ2 u y
theorem Frx.of {K : Heap} {v : VV} (h : Exact v) : Frx K v v := fun B w Z ρ ρ2 y _ hv => h _ _ _ _ _ _ _ hv
theorem Frx.sl {K : Heap} {b o n z : Nat} {c : Option Nat} {vs : List VV} (hg : K.get b = some (.cells true vs)) (hl : o + n * z ≤ vs.length) (hn : ∀ v ∈ vs, Exact v) : Frx K (.sl b o n c z) (.ro n ((vs.drop o).take (n * z))) := fun B w Z ρ ρ2 y hr hv => by
  cases hv with
  | sl hk hcap hc hzz =>
    obtain ⟨ds, g1, g2, g3⟩ := hr.read hg hk o (n * z) hl
    obtain ⟨k', N', x, q1, q2, q3, q4, q5⟩ := hr.objC hg rfl
    rw [hk] at q1
    injection q1 with q1
    injection q1 with q1 q1'
    subst q1 q1'
    have hnew := (q5 rfl).resolve_right id
    have hlt := hr.lt hg hk
    refine .ro (cs := ds) ⟨hnew, hlt⟩ hcap g1.1 (fun i hi => ?_) (fun i u c' hu hc' => ?_)
    · have := g3 i (ds[i]'hi) (List.getElem?_eq_getElem hi)
      rw [add_mk] at this
      rw [this, List.getElem?_eq_getElem hi]
    · have hm : u ∈ vs := List.mem_of_mem_drop (List.mem_of_mem_take (List.mem_of_getElem? hu))
      exact (hn u hm) _ _ _ _ _ _ _ (g1.2 i u c' hu hc')
/-- A call apart with arguments as the caller's heap has them. -/
theorem VCall.viewed {H : Heap} {args' : List VV} {Q : VV → Heap → Prop} {u : VV} (ha : ViewL H args args') (h : VCall P f args' ⟨[], 0⟩ Q) (hv : ∀ v K, Q v K → Frx K v u) : VCall P f args H (fun v K => v = u ∧ K = H) := fun B M Z ρ w ra h1 h2 => by
  have hp := ha.pw h1 h2
  refine (h w (fun _ => False) (fun k => k < w.heap.size) (fun _ => none) w ra ⟨h1.globApart, rfl, rfl, rfl, Nat.le_refl _, fun _ _ _ => rfl, fun _ _ => rfl, fun b x hx => by simp [Heap.get, hget] at hx, fun b b' k N N' x x' hx => by simp [Heap.get, hget] at hx, fun b x hx => by simp [Heap.get, hget] at hx, fun _ h => h⟩ hp).mono ?_
  rintro e w' ⟨v', v, H', Z', ρ', rfl, q, e1, r1, v1⟩
  obtain ⟨e2, r2⟩ := h1.step (Z' := fun k => Z k ∨ (w.heap.size ≤ k ∧ k < w'.heap.size)) r1.os r1.tape r1.output r1.size (fun k hk => r1.frame k hk id) (fun _ h => .inl h) (fun _ h => h)
  exact ⟨v', u, H, _, ρ, rfl, ⟨rfl, rfl⟩, e2, r2, (hv v H' q w w' Z' ρ' ρ v' r1 v1).zmono fun k hk => .inr hk⟩
end
theorem roB_slice {l : List UInt8} {z i j : Nat} (hz : z = 1) (hij : i ≤ j) (hj : j ≤ l.length) : VV.ro (j - i) (((l.map bV).drop (i * z)).take ((j - i) * z)) = roB ((l.drop i).take (j - i)) := by
  subst hz
  unfold roB
  simp only [Nat.mul_one, List.map_take, List.map_drop, List.length_take, List.length_drop]
  rw [Nat.min_eq_left (by omega)]
theorem tp2 {a b c d : VV} (h : a = c) (g : b = d) : VV.tp [a, b] = VV.tp [c, d] := by rw [h, g]
theorem tp3 {a b c d e f : VV} (h : a = d) (g : b = e) (k : c = f) : VV.tp [a, b, c] = VV.tp [d, e, f] := by rw [h, g, k]
end Go.Proofs.Ytbnemkdkeaiaoaa
