import Derived.Test.YtmmjgbdihgdekaaDoorE5
import Derived.Test.YtmmjgbdihgdekaaDoorE6
import Derived.Lib.RowBridge
import Derived.Sort.Grow
/- A contract of the kit that rewrites a row in place, as a call of the walk. Over any program. -/
namespace Go.Proofs.YtmmjgbdihgdekaaDoor
open Go Go.RowKit Go.Sort
set_option linter.unusedSimpArgs false
set_option linter.unusedVariables false
theorem VCall.row {P : Program} {f : FuncId} {H : Heap} {b n : Nat} {c : Option Nat} {α : Type} [Inhabited α] (enc : α → Value) (encV : α → VV) (hto : ∀ x w Z ρ, VRel w Z ρ (encV x) (enc x)) (hinv : ∀ x w Z ρ y, VRel w Z ρ (encV x) y → y = enc x)
    (zs ys : List α) (hl : ys.length = zs.length) (hg : H.get b = some (.cells true (zs.map encV))) (hn : n = zs.length) (res : Nat → Nat → Value) (rv : VV)
    (hres : ∀ k c' w Z ρ, VRel w Z ρ (.sl b 0 n c 1) (.slice (some ⟨k, 0, none⟩) n c') → VRel w Z ρ rv (res k c'))
    (h : ∀ k c' w, Holds enc w k 0 zs.toArray → k < w.heap.size → zs.length ≤ c' → Calls P f #[.slice (some ⟨k, 0, none⟩) zs.length c'] w fun e w' => e = .returned (res k c') ∧ ∃ m os, w' = grow (putRow enc (Sort.ahead w m) k 0 ys.toArray) os) :
    VCall P f [.sl b 0 n c 1] H (fun v K => v = rv ∧ K = H.set b (.cells true (ys.map encV))) := fun B M Z ρ w ra h1 h2 => by
  obtain ⟨hlen, hrel2⟩ := h2
  match hra : ra.toList, hlen with
  | [y], _ =>
    have hv := hrel2 0 _ y rfl (by rw [hra]; rfl)
    obtain rfl : ra = #[y] := by
      cases ra
      simp only at hra
      rw [hra]
    cases hv with
    | @sl _ _ _ k N c' _ _ hk hcap hc hz =>
      obtain ⟨k', N', cs, t, fr, g1, g2, g3, g4, g5⟩ := h1.at_ hg
      rw [hk] at g1; injection g1 with g1; injection g1 with g1 g1'; subst g1 g1'
      subst hn
      have hgl := g4.length
      simp only [List.length_map, Array.length_toList] at hgl
      have hcell : ∀ j (hj : j < zs.length), cs[j]? = some (enc zs[j]) := fun j hj => by
        obtain ⟨c0, hc0, hr0⟩ := g4 j (encV zs[j]) (by rw [List.getElem?_map, List.getElem?_eq_getElem hj]; rfl)
        rw [hinv _ _ _ _ _ hr0] at hc0
        simpa using hc0
      have hH : Holds enc w k 0 zs.toArray := fun j hj => by
        have hj' : j < zs.length := by simpa using hj
        refine ⟨?_, ?_⟩
        · rw [Nat.zero_add, cell_of_cells g2, hcell j hj']
          congr 2
          rw [getElem!_pos zs.toArray j hj]
          simp
        · rw [Nat.zero_add, frozen_of_cells g2]
          exact nofr g5 (by omega)
      refine (h k c' w hH (h1.lt hg hk) hcap).mono ?_
      rintro e w' ⟨rfl, m, os, rfl⟩
      have e1 := Lib.putRow_eq_setCells enc w k 0 zs.toArray ys m hH (by simpa using hl)
      rw [e1]
      obtain ⟨s1, s2, s3, s4, s5, s6⟩ := heap_setCells k t fr (ys.map enc) 0 (w.drewN m) cs g2
      have hsize : (setRun cs.toList 0 (ys.map enc)).length = cs.size := by rw [length_setRun]; simp
      obtain ⟨x1, r1⟩ := h1.turn (y := .cells true (ys.map encV)) hg hk rfl rfl s4 s5 s6 s3 s2 s1 ⟨_, t, fr, rfl, by simpa using hsize.trans g3, (fun i u hu => by
        have hi : i < ys.length := by
          have := (List.getElem?_eq_some_iff.1 hu).1
          simpa using this
        rw [List.getElem?_map, List.getElem?_eq_getElem hi] at hu
        injection hu with hu
        subst hu
        refine ⟨enc ys[i], ?_, hto _ _ _ _⟩
        show (setRun cs.toList 0 (ys.map enc))[i]? = _
        rw [getElem?_setRun _ _ _ _ (by simp; omega), if_pos (by simp; omega), Nat.sub_zero, List.getElem?_map, List.getElem?_eq_getElem hi]
        rfl), g5⟩
      obtain ⟨x2, r2⟩ := r1.step (Z' := Z) (w' := grow ((w.drewN m).setCells k 0 (ys.map enc)) os) rfl rfl rfl (by show _ ≤ (_ ++ os).size; simp) (fun j hj => by show (_ ++ os)[j]? = _; rw [Array.getElem?_append_left hj]) (fun _ h => h) (fun _ h => .inl h)
      exact ⟨res k c', rv, _, Z, ρ, rfl, ⟨rfl, rfl⟩, x1.trans x2, r2, hres _ _ _ _ _ (.sl hk hcap hc hz)⟩
theorem restO_nil : ∀ (O : List (Nat × VObj)), restO [] O = O
  | [] => rfl
  | (a, b) :: r => by simp [restO, memN, restO_nil r]
theorem beqN_ne {x y : Nat} (h : x ≠ y) : Nat.beq x y = false := by
  cases hh : Nat.beq x y
  · rfl
  · exact absurd (Nat.eq_of_beq_eq_true hh) h
theorem memN_dom {O : List (Nat × VObj)} {b : Nat} (h : memN b (O.map (·.1)) = true) : ∃ x, hget O b = some x := by
  have key : ∀ (O : List (Nat × VObj)), b ∈ O.map (·.1) → ∃ x, hget O b = some x := by
    intro O
    induction O with
    | nil => intro h; simp at h
    | cons p r ih =>
      obtain ⟨k, x⟩ := p
      intro h
      rw [hget_cons]
      split
      · exact ⟨_, rfl⟩
      · rename_i hne
        rcases List.mem_cons.1 h with e | h
        · exact absurd e.symm hne
        · exact ih h
  exact key O (memN_iff.1 h)
theorem Frz.ag {K : Heap} : ∀ {vs us : List VV}, FrzL K vs us → Frz K (.ag vs) (.ag us) := fun {vs us} h B w Z ρ ρ2 y hr hv => by
  cases hv with
  | @ag _ cs h1 r1 =>
    obtain ⟨cs⟩ := cs
    simp only at h1 r1
    have key : ∀ {vs us : List VV} {cs : List Value}, FrzL K vs us → Pw (VRel w Z ρ) vs cs → Pw (VRel w (fun k => Z k ∨ (B.heap.size ≤ k ∧ k < w.heap.size)) ρ2) us cs := by
      intro vs us cs h
      induction h generalizing cs with
      | nil => intro hp; exact ⟨hp.1, fun i u c hu => by simp at hu⟩
      | @cons v u r s hvu _ ih =>
        intro hp
        match cs, hp with
        | c :: ct, hp =>
          have h0 := hp.2 0 v c rfl rfl
          have ht : Pw (VRel w Z ρ) r ct := ⟨by have := hp.1; simpa using this, fun i u c hu hc => hp.2 (i + 1) u c (by simpa using hu) (by simpa using hc)⟩
          exact Pw.cons (hvu B w Z ρ ρ2 c hr h0) (ih ht)
        | [], hp => have := hp.1; simp at this
    have := key h ⟨h1, r1⟩
    exact .ag this.1 this.2
end Go.Proofs.YtmmjgbdihgdekaaDoor

/- What is handed back to a caller whose slices were looked at. Over any program. -/
namespace Go.Proofs.YtmmjgbdihgdekaaDoor
open Go Go.RowKit
set_option linter.unusedSimpArgs false
set_option linter.unusedVariables false
theorem Frx.frz {K : Heap} {v u : VV} (h : Frx K v u) : Frz K v u := fun B w Z ρ ρ2 y hr hv => (h B w Z ρ ρ2 y hr hv).zmono fun k hk => .inr hk
theorem Frx.ro0 {K : Heap} : Frx K (.ro 0 []) (.ro 0 []) := fun B w Z ρ ρ2 y _ hv => by
  cases hv with
  | ro => exact .ro0
  | ro0 => exact .ro0
theorem Frx.ag {K : Heap} {vs us : List VV} (h : FrxL K vs us) : Frx K (.ag vs) (.ag us) := fun B w Z ρ ρ2 y hr hv => by
  cases hv with
  | @ag _ cs h1 r1 =>
    obtain ⟨cs⟩ := cs
    simp only at h1 r1
    have key : ∀ {vs us : List VV} {cs : List Value}, FrxL K vs us → Pw (VRel w Z ρ) vs cs → Pw (VRel w (fun k => B.heap.size ≤ k ∧ k < w.heap.size) ρ2) us cs := by
      intro vs us cs h
      induction h generalizing cs with
      | nil => intro hp; exact ⟨hp.1, fun i u c hu => by simp at hu⟩
      | @cons v u r s hvu _ ih =>
        intro hp
        match cs, hp with
        | c :: ct, hp =>
          have h0 := hp.2 0 v c rfl rfl
          have ht : Pw (VRel w Z ρ) r ct := ⟨by have := hp.1; simpa using this, fun i u c hu hc => hp.2 (i + 1) u c (by simpa using hu) (by simpa using hc)⟩
          exact Pw.cons (hvu B w Z ρ ρ2 c hr h0) (ih ht)
        | [], hp => have := hp.1; simp at this
    have := key h ⟨h1, r1⟩
    exact .ag this.1 this.2
end Go.Proofs.YtmmjgbdihgdekaaDoor

