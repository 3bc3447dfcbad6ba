/- Calls apart from the caller's heap. Over any program. -/
import Derived.Test.YtnfmoclmfddajaaV3
namespace Go.Proofs.Ytnfmoclmfddajaa
open Go Go.RowKit
set_option linter.unusedSimpArgs false
set_option linter.unusedVariables false
/-- Values that name nothing: what they stand for doesn't hang on names. -/
def Nameless (v : VV) : Prop := ∀ (w : World) (Z : Nat → Prop) (ρ ρ' : Nat → Option (Nat × Nat)) (y : Value), VRel w Z ρ v y → VRel w Z ρ' v y
theorem nameless_sc (x : Value) : Nameless (.sc x) := fun w Z ρ ρ' y h => by cases h with | sc h => exact .sc h
theorem nameless_bV (b : UInt8) : Nameless (bV b) := nameless_sc _
theorem nameless_ro {n : Nat} {vs : List VV} (h : ∀ v ∈ vs, Nameless v) : Nameless (.ro n vs) := fun w Z ρ ρ' y hr => by
  cases hr with
  | ro hZ hn hlen hcell hrel => exact .ro hZ hn hlen hcell fun i u c hu hc => h u (List.mem_of_getElem? hu) _ _ _ _ _ (hrel i u c hu hc)
  | ro0 => exact .ro0
theorem nameless_roB (l : List UInt8) : Nameless (roB l) := nameless_ro fun v hv => by
  obtain ⟨b, _, rfl⟩ := List.mem_map.1 hv
  exact nameless_bV b
theorem nameless_tp {vs : List VV} (h : ∀ v ∈ vs, Nameless v) : Nameless (.tp vs) := fun w Z ρ ρ' y hr => by
  cases hr with
  | tp h1 r1 => exact .tp h1 fun i u c hu hc => h u (List.mem_of_getElem? hu) _ _ _ _ _ (r1 i u c hu hc)
/-- Values that are exact: they hang on nothing. -/
def Exact (v : VV) : Prop := ∀ (w w' : World) (Z Z' : Nat → Prop) (ρ ρ' : Nat → Option (Nat × Nat)) (y : Value), VRel w Z ρ v y → VRel w' Z' ρ' v y
theorem exact_sc (x : Value) : Exact (.sc x) := fun w w' Z Z' ρ ρ' y h => by cases h with | sc h => exact .sc h
theorem exact_tp {vs : List VV} (h : ∀ v ∈ vs, Exact v) : Exact (.tp vs) := fun w w' Z Z' ρ ρ' y hr => by
  cases hr with
  | tp h1 r1 => exact .tp h1 fun i u c hu hc => h u (List.mem_of_getElem? hu) _ _ _ _ _ _ _ (r1 i u c hu hc)
section
variable {P : Program} {f : FuncId} {args : List VV}
theorem rel_apart {B w : World} {M Z : Nat → Prop} {ρ : Nat → Option (Nat × Nat)} {H : Heap} (h : Rel B M Z ρ H w) : Rel w (fun _ => False) Z (fun _ => none) ⟨[], 0⟩ w :=
  ⟨rfl, rfl, rfl, Nat.le_refl _, fun _ _ _ => rfl, fun _ _ => rfl, fun b x hx => by simp [Heap.get, hget] at hx, fun b b' k N N' x x' hx => by simp [Heap.get, hget] at hx, fun b x hx => by simp [Heap.get, hget] at hx, h.zlt⟩
/-- A call with an empty heap is one with any; what it hands back names nothing. -/
theorem VCall.apart {H : Heap} {Q : VV → Heap → Prop} (ha : ∀ v ∈ args, Nameless v) (h : VCall P f args ⟨[], 0⟩ Q) (hv : ∀ v K, Q v K → Exact v) : VCall P f args H (fun v K => (∃ K', Q v K') ∧ K = H) := fun B M Z ρ w ra h1 h2 => by
  have hp : Pw (VRel w Z (fun _ => none)) args ra.toList := ⟨h2.1, fun i u c hu hc => ha u (List.mem_of_getElem? hu) _ _ _ _ _ (h2.2 i u c hu hc)⟩
  refine (h w (fun _ => False) Z (fun _ => none) w ra (rel_apart h1) hp).mono ?_
  rintro e w' ⟨v', v, H', Z', ρ', rfl, q, e1, r1, v1⟩
  obtain ⟨e2, r2⟩ := h1.step (Z' := Z) r1.os r1.tape r1.output r1.size (fun k hk => r1.frame k hk id) (fun _ h => h) (fun _ h => .inl h)
  exact ⟨v', v, H, Z, ρ, rfl, ⟨⟨H', q⟩, rfl⟩, e2, r2, hv v H' q _ _ _ _ _ _ _ v1⟩
/-- A closed run that answers a plain value. -/
def isV (x : Option (VV × Heap)) (u : VV) : Bool := match x with
  | some (v, _) => veq v u
  | none => false
theorem VCall.closed {H : Heap} (hm : P.follows .mixedOrders = true) (n : Nat) {u : Value} (h : isV (vcallW P (vcode P n) f [] ⟨[], 0⟩) (.sc u) = true) : VCall P f [] H (fun v K => v = .sc u ∧ K = H) := by
  unfold isV at h
  split at h
  · rename_i v K hr
    have := veq_eq h
    subst this
    refine (VCall.apart (Q := fun x K' => x = .sc u ∧ K' = K) (fun v hv => by simp at hv) (VCall.run hm n hr) (fun v K e => e.1 ▸ exact_sc u)).mono ?_
    rintro v K' ⟨⟨_, e, _⟩, e2⟩
    exact ⟨e, e2⟩
  · simp at h
/-- The frame of a statement on plain arguments: what it answers, and that nothing older has changed. -/
theorem VCall.law {b : Bool} (h : VCall P f args ⟨[], 0⟩ (fun v _ => v = .sc (.bool b))) (w : World) (ra : Array Value) (hp : Pw (VRel w (fun k => k < w.heap.size) (fun _ => none)) args ra.toList) :
    Calls P f ra w (fun e w' => e = .returned (.bool b) ∧ Below w.heap.size w w') := by
  refine (h w (fun _ => False) (fun k => k < w.heap.size) (fun _ => none) w ra ⟨rfl, rfl, rfl, Nat.le_refl _, fun _ _ _ => rfl, fun _ _ => rfl, fun b x hx => by simp [Heap.get, hget] at hx, fun b b' k N N' x x' hx => by simp [Heap.get, hget] at hx, fun b x hx => by simp [Heap.get, hget] at hx, fun _ h => h⟩ hp).mono ?_
  rintro e w' ⟨v', v, H', Z', ρ', rfl, rfl, e1, r1, v1⟩
  cases v1
  exact ⟨rfl, r1.below⟩
end
end Go.Proofs.Ytnfmoclmfddajaa
