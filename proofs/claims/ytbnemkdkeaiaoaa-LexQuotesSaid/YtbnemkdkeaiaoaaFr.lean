/- A slice in the middle of a walk, taken as rows that nobody writes any more. Over any program. -/
import Derived.Test.YtbnemkdkeaiaoaaVg
import Derived.Test.YtbnemkdkeaiaoaaVk
namespace Go.Proofs.Ytbnemkdkeaiaoaa
open Go Go.RowKit
set_option linter.unusedSimpArgs false
set_option linter.unusedVariables false
theorem Rel.freezeB {B w : World} {M Z : Nat → Prop} {ρ : Nat → Option (Nat × Nat)} {H : Heap} {b k N : Nat} {x : VObj} (h : Rel B M Z ρ H w) (hx : H.get b = some x) (hk : ρ b = some (k, N)) : Rel B M (fun j => Z j ∨ j = k) ρ (H.del b) w := by
  have hsub : ∀ c y, (H.del b).get c = some y → H.get c = some y ∧ c ≠ b := fun c y hy => by
    rw [Heap.get_del] at hy
    split at hy
    · cases hy
    · rename_i hne
      exact ⟨hy, fun e => hne e.symm⟩
  refine ⟨h.glob, h.os, h.tape, h.output, h.size, h.frame, h.dom, fun c y hy => h.live c y (hsub c y hy).1, fun c c' q N1 N2 y y' hy hy' => h.inj c c' q N1 N2 y y' (hsub _ _ hy).1 (hsub _ _ hy').1, fun c y hy => ?_, fun j hj => ?_⟩
  · rcases h.obj c y (hsub c y hy).1 with hg | ⟨q, N', o, h1, h2, h3, h4, h5⟩
    · exact .inl hg
    refine .inr ⟨q, N', o, h1, h2, h3.zmono fun _ h => .inl h, fun hz => ?_, h5⟩
    rcases hz with hz | rfl
    · exact h4 hz
    · exact (hsub c y hy).2 (h.inj c b q N' N y x (hsub c y hy).1 hx h1 hk)
  · rcases hj with hj | rfl
    · exact h.zlt j hj
    · exact h.lt hx hk
theorem Rel.ownB {B w : World} {M Z : Nat → Prop} {ρ : Nat → Option (Nat × Nat)} {H : Heap} {b k N : Nat} {x : VObj} (h : Rel B M Z ρ H w) (hx : H.get b = some x) (hr : x.rw = true) (hk : ρ b = some (k, N)) : own B M k := by
  obtain ⟨k', N', o, g1, g2, g3, g4, g5⟩ := h.objK hx hk
  rw [hk] at g1; injection g1 with g1; injection g1 with g1 g1'; subst g1
  exact g5 hr
theorem Ext.unfreeze {X : Nat → Prop} {n n' k : Nat} {Z Z' : Nat → Prop} {ρ ρ' : Nat → Option (Nat × Nat)} {w w' : World} (hX : X k) (e : Ext X n (fun j => Z j ∨ j = k) ρ w n' Z' ρ' w') : Ext X n Z ρ w n' Z' ρ' w' :=
  ⟨e.nle, e.rold, fun j hj => e.zsub j (.inl hj), e.rsub, fun j hj => e.keep j (.inl hj), e.size, fun j hj => by
    rcases e.znew j hj with (g | rfl) | g
    · exact .inl g
    · exact .inr (.inr hX)
    · exact .inr g⟩
theorem frz_core {P : Program} {r : Option Nat} {c : Code} {Q : Exit → VSt → Prop} {ts : List VV} {H : Heap} {m : List Nat} {v u : VV} {b : Nat} {x : VObj} (i : Nat) (hi : ts[i]? = some v) (hx : H.get b = some x) (hr : x.rw = true)
    (hv : ∀ B M Z ρ w y, Rel B M Z ρ H w → VRel w Z ρ v y → VRel w Z ρ u y ∨ ∃ k N, ρ b = some (k, N) ∧ VRel w (fun j => Z j ∨ j = k) ρ u y) (h : GWP P r c Q ⟨ts.set i u, H.del b, m⟩) : GWP' P r c Q ⟨ts, H, m⟩ := ⟨⟨fun B M Z ρ a w rr QE g0 g1 g2 g3 => by
  obtain ⟨y, hy, hvy⟩ := g2.tmps.get hi
  have hset : ∀ {Z2 : Nat → Prop}, (∀ k, Z k → Z2 k) → VRel w Z2 ρ u y → Pw (VRel w Z2 ρ) (ts.set i u) a.tmps.toList := fun hz hu => by
    have hp := (g2.tmps.mono fun _ _ h => h.zmono hz).set i hu
    rwa [List.ext_getElem? (l₁ := a.tmps.toList.set i _) (l₂ := a.tmps.toList) (fun j => by
      by_cases e : i = j
      · subst e
        rw [List.getElem?_set_self (List.getElem?_eq_some_iff.1 hy).1, hy]
      · rw [List.getElem?_set_ne e])] at hp
  rcases hv B M Z ρ w y g1 hvy with hu | ⟨k, N, hk, hu⟩
  · exact h.out B M Z ρ a w rr QE g0 (g1.del b) ⟨hset (fun _ h => h) hu, g2.marks⟩ g3
  · exact h.out B M (fun j => Z j ∨ j = k) ρ a w rr QE g0 (g1.freezeB hx hk) ⟨hset (fun _ h => .inl h) hu, g2.marks⟩ fun e s' Z' ρ' a' w' q e1 r1 a1 => g3 e s' Z' ρ' a' w' q (e1.unfreeze (g1.ownB hx hr hk)) r1 a1⟩⟩
theorem read_frz {B w : World} {M Z : Nat → Prop} {ρ : Nat → Option (Nat × Nat)} {H : Heap} {b k N n z c' o : Nat} {vs : List VV} {cs : Array Value} {t : TypeId} {fr : Nat × Nat} (hw : w.heap[k]? = some (.cells cs t fr)) (hp : Pre (VRel w Z ρ) vs cs.toList) (hl : vs.length = n * z) (hn : n ≤ c') : VRel w (fun j => Z j ∨ j = k) ρ (.ro n vs) (.slice (some ⟨k, 0, none⟩) n c') := by
  have hpp := hp.part 0 vs.length (by omega)
  rw [List.drop_zero, List.drop_zero, List.take_length] at hpp
  have hlen := hpp.1
  refine .ro (cs := cs.toList.take vs.length) (.inr rfl) hn hlen (fun i hi => ?_) (fun i u c hu hc => (hpp.2 i u c hu hc).zmono fun _ h => .inl h)
  rw [cell_of_cells hw, Nat.zero_add]
  rw [List.getElem?_take_of_lt (by rw [hlen]; exact hi)]
  simp
/-- A slice that may be nil, frozen. -/
theorem GWP'.freeze {P : Program} {r : Option Nat} {c : Code} {Q : Exit → VSt → Prop} {ts : List VV} {H : Heap} {m : List Nat} {b n z : Nat} {vs : List VV} (i : Nat) (hi : ts[i]? = some (.gs b n z)) (hg : H.get b = some (.opt vs)) (hl : vs.length = n * z) (h : GWP P r c Q ⟨ts.set i (.ro n vs), H.del b, m⟩) : GWP' P r c Q ⟨ts, H, m⟩ := by
  refine frz_core i hi hg rfl ?_ h
  intro B M Z ρ w y hr hv
  cases hv with
  | gs0 =>
    obtain rfl : vs = [] := List.eq_nil_of_length_eq_zero (by simpa using hl)
    exact .inl .ro0
  | @gs _ _ k N c' _ hk hn hz h0 =>
    obtain ⟨k', N', o, g1, g2, ⟨cs, t, fr, rfl, q1, q2, q3⟩, _⟩ := hr.objK hg hk
    rw [hk] at g1; injection g1 with g1; injection g1 with g1 g1'; subst g1 g1'
    exact .inr ⟨k, N, hk, read_frz (B := B) (M := M) (H := H) (b := b) (N := N) (o := 0) g2 q2 hl hn⟩
/-- A whole slice, frozen. -/
theorem GWP'.freezeS {P : Program} {r : Option Nat} {cd : Code} {Q : Exit → VSt → Prop} {ts : List VV} {H : Heap} {m : List Nat} {b n z : Nat} {c : Option Nat} {vs : List VV} (i : Nat) (hi : ts[i]? = some (.sl b 0 n c z)) (hg : H.get b = some (.cells true vs)) (hl : vs.length = n * z) (h : GWP P r cd Q ⟨ts.set i (.ro n vs), H.del b, m⟩) : GWP' P r cd Q ⟨ts, H, m⟩ := by
  refine frz_core i hi hg rfl ?_ h
  intro B M Z ρ w y hr hv
  cases hv with
  | @sl _ _ _ k N c' _ _ hk hn hc hz =>
    obtain ⟨k', N', o, g1, g2, ⟨cs, t, fr, rfl, q1, q2, q3⟩, _⟩ := hr.objC hg rfl
    rw [hk] at g1; injection g1 with g1; injection g1 with g1 g1'; subst g1 g1'
    exact .inr ⟨k, N, hk, read_frz (B := B) (M := M) (H := H) (b := b) (N := N) (o := 0) g2 q2 hl hn⟩
theorem frz_op {P : Program} {o : Oper} {ts : List VV} {H : Heap} {K : VV → Heap → Prop} {v u : VV} {b : Nat} {x : VObj} (i : Nat) (hi : ts[i]? = some v) (hx : H.get b = some x) (hr : x.rw = true)
    (hv : ∀ B M Z ρ w y, Rel B M Z ρ H w → VRel w Z ρ v y → VRel w Z ρ u y ∨ ∃ k N, ρ b = some (k, N) ∧ VRel w (fun j => Z j ∨ j = k) ρ u y) (h : GOp' P o (ts.set i u) (H.del b) K) : GOp' P o ts H K := ⟨⟨fun B M Z ρ a w rr KK QE g1 g2 g3 => by
  obtain ⟨y, hy, hvy⟩ := g2.get hi
  have hset : ∀ {Z2 : Nat → Prop}, (∀ k, Z k → Z2 k) → VRel w Z2 ρ u y → Pw (VRel w Z2 ρ) (ts.set i u) a.tmps.toList := fun hz hu => by
    have hp := (g2.mono fun _ _ h => h.zmono hz).set i hu
    rwa [List.ext_getElem? (l₁ := a.tmps.toList.set i _) (l₂ := a.tmps.toList) (fun j => by
      by_cases e : i = j
      · subst e
        rw [List.getElem?_set_self (List.getElem?_eq_some_iff.1 hy).1, hy]
      · rw [List.getElem?_set_ne e])] at hp
  rcases hv B M Z ρ w y g1 hvy with hu | ⟨k, N, hk, hu⟩
  · exact h.out.out B M Z ρ a w rr KK QE (g1.del b) (hset (fun _ h => h) hu) g3
  · exact h.out.out B M (fun j => Z j ∨ j = k) ρ a w rr KK QE (g1.freezeB hx hk) (hset (fun _ h => .inl h) hu) fun v' v H' Z' ρ' w' q e1 r1 v1 => g3 v' v H' Z' ρ' w' q (e1.unfreeze (g1.ownB hx hr hk)) r1 v1⟩⟩
theorem gs_view {H : Heap} {b n z : Nat} {vs : List VV} (hg : H.get b = some (.opt vs)) (hl : vs.length = n * z) : ∀ B M Z ρ w y, Rel B M Z ρ H w → VRel w Z ρ (.gs b n z) y → VRel w Z ρ (.ro n vs) y ∨ ∃ k N, ρ b = some (k, N) ∧ VRel w (fun j => Z j ∨ j = k) ρ (.ro n vs) y := by
  intro B M Z ρ w y hr hv
  cases hv with
  | gs0 =>
    obtain rfl : vs = [] := List.eq_nil_of_length_eq_zero (by simpa using hl)
    exact .inl .ro0
  | @gs _ _ k N c' _ hk hn hz h0 =>
    obtain ⟨k', N', o, g1, g2, ⟨cs, t, fr, rfl, q1, q2, q3⟩, _⟩ := hr.objK hg hk
    rw [hk] at g1; injection g1 with g1; injection g1 with g1 g1'; subst g1 g1'
    exact .inr ⟨k, N, hk, read_frz (B := B) (M := M) (H := H) (b := b) (N := N) (o := 0) g2 q2 hl hn⟩
/-- An operation whose operand is a slice that may be nil: it is frozen ahead of it. -/
theorem GOp'.freeze {P : Program} {o : Oper} {ts : List VV} {H : Heap} {K : VV → Heap → Prop} {b n z : Nat} {vs : List VV} (i : Nat) (hi : ts[i]? = some (.gs b n z)) (hg : H.get b = some (.opt vs)) (hl : vs.length = n * z) (h : GOp' P o (ts.set i (.ro n vs)) (H.del b) K) : GOp' P o ts H K := frz_op i hi hg rfl (gs_view hg hl) h
end Go.Proofs.Ytbnemkdkeaiaoaa
