import Derived.Shelf.Strings.Search1
import Derived.Shelf.Strings.Search2
import Derived.Shelf.Strings.Search3
import Derived.Shelf.Strings.Cut
import Derived.Shelf.Strings.Count
import Derived.Shelf.Sort.Plain
import Derived.Shelf.Strings.Prefix
import Derived.Shelf.Small.Wraps
import Derived.Shelf.Strings.Split
import Derived.Shelf.Slices.CompactS
import Derived.Shelf.Slices.In.SortNone
import Derived.Test.YtmmjgbdihgdekaaDoorProg
import Derived.Test.YtmmjgbdihgdekaaDoorH5
import Derived.Lib.SlicesCompact
import Derived.Sort.EncStr
import Derived.Test.YtmmjgbdihgdekaaDoorH6
import Derived.Lib.RowBridge
import Derived.Sort.Grow
import Derived.Test.YtmmjgbdihgdekaaDoorI8
import Derived.Test.YtmmjgbdihgdekaaDoorI1
import Derived.Test.YtmmjgbdihgdekaaDoorI6
/-
  DERIVED: THE SHELF's CONTRACTS AT THIS DUMP, IN PLAIN WORDS (tools/lay-plain.mjs out of 'TrydShelf.lean', which tools/lay-shelf.mjs wrote): THE SAME DECLARATIONS UNDER THE SAME NAMES: 'import', 'namespace', 'open', 'def', 'theorem' AND NOTHING ELSE: no command of the shelf's: FOR A HAND-IN. Each laying: the table of numbers ('.._ren') and one theorem, a field a fact of the dump's own or the kernel's comparison; each contract: ONE APPLICATION.
-/
namespace Go.Proofs
open Go.Shelf
end Go.Proofs

/- Sets in order: the plain law. No program in sight. -/
namespace Go.Proofs.YtmmjgbdihgdekaaDoor
open Go Go.RowKit
set_option linter.unusedSimpArgs false
set_option linter.unusedVariables false
set_option linter.unusedSectionVars false
section
variable {α : Type} [DecidableEq α] [Inhabited α] {lt : α → α → Bool}
structure LtOk (lt : α → α → Bool) : Prop where
  irr : ∀ x, lt x x = false
  trans : ∀ x y z, lt x y = true → lt y z = true → lt x z = true
  tri : ∀ x y, lt x y = true ∨ x = y ∨ lt y x = true
theorem LtOk.asym (h : LtOk lt) {x y : α} (h1 : lt x y = true) (h2 : lt y x = true) : False := by
  have := h.trans _ _ _ h1 h2
  rw [h.irr] at this; cases this
theorem LtOk.not (h : LtOk lt) {x y : α} (h1 : lt x y = true) : lt y x = false := by
  cases h2 : lt y x
  · rfl
  · exact (h.asym h1 h2).elim
/-! ### Of -/
/-! ### The document's Of -/
/-! ### A walk through two sets -/
end
end Go.Proofs.YtmmjgbdihgdekaaDoor

/- Texts in order. No program in sight. -/
namespace Go.Proofs.YtmmjgbdihgdekaaDoor
open Go Go.RowKit
set_option linter.unusedSimpArgs false
set_option linter.unusedVariables false
end Go.Proofs.YtmmjgbdihgdekaaDoor

/- A contract of the kit that rewrites a row in place, as a call of the walk. Over any program. -/
namespace Go.Proofs.YtmmjgbdihgdekaaDoor
open Go Go.RowKit Go.Sort
set_option linter.unusedSimpArgs false
set_option linter.unusedVariables false
theorem VCall.row {P : Program} {f : FuncId} {H : Heap} {b n : Nat} {c : Option Nat} {α : Type} [Inhabited α] (enc : α → Value) (encV : α → VV) (hto : ∀ x w Z ρ, VRel w Z ρ (encV x) (enc x)) (hinv : ∀ x w Z ρ y, VRel w Z ρ (encV x) y → y = enc x)
    (zs ys : List α) (hl : ys.length = zs.length) (hg : H.get b = some (.cells true (zs.map encV))) (hn : n = zs.length) (res : Nat → Nat → Value) (rv : VV)
    (hres : ∀ k c' w Z ρ, VRel w Z ρ (.sl b 0 n c 1) (.slice (some ⟨k, 0, none⟩) n c') → VRel w Z ρ rv (res k c'))
    (h : ∀ k c' w, Holds enc w k 0 zs.toArray → k < w.heap.size → zs.length ≤ c' → Calls P f #[.slice (some ⟨k, 0, none⟩) zs.length c'] w fun e w' => e = .returned (res k c') ∧ ∃ m os, w' = grow (putRow enc (Sort.ahead w m) k 0 ys.toArray) os) :
    VCall P f [.sl b 0 n c 1] H (fun v K => v = rv ∧ K = H.set b (.cells true (ys.map encV))) := fun B M Z ρ w ra h1 h2 => by
  obtain ⟨hlen, hrel2⟩ := h2
  match hra : ra.toList, hlen with
  | [y], _ =>
    have hv := hrel2 0 _ y rfl (by rw [hra]; rfl)
    obtain rfl : ra = #[y] := by
      cases ra
      simp only at hra
      rw [hra]
    cases hv with
    | @sl _ _ _ k N c' _ _ hk hcap hc hz =>
      obtain ⟨k', N', cs, t, fr, g1, g2, g3, g4, g5⟩ := h1.at_ hg
      rw [hk] at g1; injection g1 with g1; injection g1 with g1 g1'; subst g1 g1'
      subst hn
      have hgl := g4.length
      simp only [List.length_map, Array.length_toList] at hgl
      have hcell : ∀ j (hj : j < zs.length), cs[j]? = some (enc zs[j]) := fun j hj => by
        obtain ⟨c0, hc0, hr0⟩ := g4 j (encV zs[j]) (by rw [List.getElem?_map, List.getElem?_eq_getElem hj]; rfl)
        rw [hinv _ _ _ _ _ hr0] at hc0
        simpa using hc0
      have hH : Holds enc w k 0 zs.toArray := fun j hj => by
        have hj' : j < zs.length := by simpa using hj
        refine ⟨?_, ?_⟩
        · rw [Nat.zero_add, cell_of_cells g2, hcell j hj']
          congr 2
          rw [getElem!_pos zs.toArray j hj]
          simp
        · rw [Nat.zero_add, frozen_of_cells g2]
          exact nofr g5 (by omega)
      refine (h k c' w hH (h1.lt hg hk) hcap).mono ?_
      rintro e w' ⟨rfl, m, os, rfl⟩
      have e1 := Lib.putRow_eq_setCells enc w k 0 zs.toArray ys m hH (by simpa using hl)
      rw [e1]
      obtain ⟨s1, s2, s3, s4, s5, s6⟩ := heap_setCells k t fr (ys.map enc) 0 (w.drewN m) cs g2
      have hsize : (setRun cs.toList 0 (ys.map enc)).length = cs.size := by rw [length_setRun]; simp
      obtain ⟨x1, r1⟩ := h1.turn (y := .cells true (ys.map encV)) hg hk rfl rfl s4 s5 s6 s3 s2 s1 ⟨_, t, fr, rfl, by simpa using hsize.trans g3, (fun i u hu => by
        have hi : i < ys.length := by
          have := (List.getElem?_eq_some_iff.1 hu).1
          simpa using this
        rw [List.getElem?_map, List.getElem?_eq_getElem hi] at hu
        injection hu with hu
        subst hu
        refine ⟨enc ys[i], ?_, hto _ _ _ _⟩
        show (setRun cs.toList 0 (ys.map enc))[i]? = _
        rw [getElem?_setRun _ _ _ _ (by simp; omega), if_pos (by simp; omega), Nat.sub_zero, List.getElem?_map, List.getElem?_eq_getElem hi]
        rfl), g5⟩
      obtain ⟨x2, r2⟩ := r1.step (Z' := Z) (w' := grow ((w.drewN m).setCells k 0 (ys.map enc)) os) rfl rfl rfl (by show _ ≤ (_ ++ os).size; simp) (fun j hj => by show (_ ++ os)[j]? = _; rw [Array.getElem?_append_left hj]) (fun _ h => h) (fun _ h => .inl h)
      exact ⟨res k c', rv, _, Z, ρ, rfl, ⟨rfl, rfl⟩, x1.trans x2, r2, hres _ _ _ _ _ (.sl hk hcap hc hz)⟩
theorem restO_nil : ∀ (O : List (Nat × VObj)), restO [] O = O
  | [] => rfl
  | (a, b) :: r => by simp [restO, memN, restO_nil r]
theorem memN_dom {O : List (Nat × VObj)} {b : Nat} (h : memN b (O.map (·.1)) = true) : ∃ x, hget O b = some x := by
  have key : ∀ (O : List (Nat × VObj)), b ∈ O.map (·.1) → ∃ x, hget O b = some x := by
    intro O
    induction O with
    | nil => intro h; simp at h
    | cons p r ih =>
      obtain ⟨k, x⟩ := p
      intro h
      rw [hget_cons]
      split
      · exact ⟨_, rfl⟩
      · rename_i hne
        rcases List.mem_cons.1 h with e | h
        · exact absurd e.symm hne
        · exact ih h
  exact key O (memN_iff.1 h)
/-- A call with plain arguments that hands back a slice of a block of its own. -/
theorem VCall.newG {P : Program} {f : FuncId} {args : List VV} {n z : Nat} {vs : List VV} (ha : ∀ v ∈ args, Nameless v) (hn : ∀ v ∈ vs, Nameless v) (h : VCall P f args ⟨[], 0⟩ (fun v K => v = .gs 0 n z ∧ K = ⟨[(0, .opt vs)], 1⟩)) (H : Heap) :
    VCall P f args H (fun v K => v = .gs H.next n z ∧ K = ⟨(H.next, .opt vs) :: H.objs, H.next + 1⟩) := by
  refine VCall.live fun hlive => ?_
  refine VCall.at (n1 := 0) (O1 := []) [] [] rfl trivial (RenL.of ha) h ?_
  rintro v K ⟨rfl, rfl⟩
  have e3 : Nat.blt H.next (H.next + 1) = true := blt_iff.2 (by omega)
  have s1 : srcOf [(0, H.next)] 0 H.next = some 0 := by simp only [srcOf0, srcN, Nat.beq_refl]
  refine ⟨.gs H.next n z, [(H.next, .opt vs)], ⟨?_, .gs (List.Mem.head _), ?_⟩, ?_, rfl, ?_⟩
  · show (wfR 0 (H.next + 1) [(0, H.next)] && nodupB (ksOf [(0, H.next)] 0 [(H.next, VObj.opt vs)]) && ((srcN [(0, H.next)] H.next).isSome && true) && (true && true)) = true
    have s1' := (srcOf0 _ _).symm.trans s1
    simp only [ksOf, s1, s1']
    simp only [wfR, srcN, e3]
    rfl
  · refine ⟨?_, trivial⟩
    show (match srcOf [(0, H.next)] 0 H.next with
      | some a => _
      | none => _)
    rw [s1]
    exact ⟨_, rfl, .opt (.of hn)⟩
  · have k3 : memN H.next ((restO [] H.objs).map (·.1)) = false := by
      cases hc : memN H.next ((restO [] H.objs).map (·.1)) with
      | false => rfl
      | true =>
        rw [restO_nil] at hc
        obtain ⟨x, hx⟩ := memN_dom hc
        have := hlive _ _ hx
        omega
    simp only [List.all_cons, List.all_nil, k3]
    rfl
  · rw [restO_nil]; rfl
theorem Frz.ag {K : Heap} : ∀ {vs us : List VV}, FrzL K vs us → Frz K (.ag vs) (.ag us) := fun {vs us} h B w Z ρ ρ2 y hr hv => by
  cases hv with
  | @ag _ cs h1 r1 =>
    obtain ⟨cs⟩ := cs
    simp only at h1 r1
    have key : ∀ {vs us : List VV} {cs : List Value}, FrzL K vs us → Pw (VRel w Z ρ) vs cs → Pw (VRel w (fun k => Z k ∨ (B.heap.size ≤ k ∧ k < w.heap.size)) ρ2) us cs := by
      intro vs us cs h
      induction h generalizing cs with
      | nil => intro hp; exact ⟨hp.1, fun i u c hu => by simp at hu⟩
      | @cons v u r s hvu _ ih =>
        intro hp
        match cs, hp with
        | c :: ct, hp =>
          have h0 := hp.2 0 v c rfl rfl
          have ht : Pw (VRel w Z ρ) r ct := ⟨by have := hp.1; simpa using this, fun i u c hu hc => hp.2 (i + 1) u c (by simpa using hu) (by simpa using hc)⟩
          exact Pw.cons (hvu B w Z ρ ρ2 c hr h0) (ih ht)
        | [], hp => have := hp.1; simp at this
    have := key h ⟨h1, r1⟩
    exact .ag this.1 this.2
end Go.Proofs.YtmmjgbdihgdekaaDoor

/- What is handed back to a caller whose slices were looked at. Over any program. -/
namespace Go.Proofs.YtmmjgbdihgdekaaDoor
open Go Go.RowKit
set_option linter.unusedSimpArgs false
set_option linter.unusedVariables false
theorem Frx.ro0 {K : Heap} : Frx K (.ro 0 []) (.ro 0 []) := fun B w Z ρ ρ2 y _ hv => by
  cases hv with
  | ro => exact .ro0
  | ro0 => exact .ro0
theorem Frx.ag {K : Heap} {vs us : List VV} (h : FrxL K vs us) : Frx K (.ag vs) (.ag us) := fun B w Z ρ ρ2 y hr hv => by
  cases hv with
  | @ag _ cs h1 r1 =>
    obtain ⟨cs⟩ := cs
    simp only at h1 r1
    have key : ∀ {vs us : List VV} {cs : List Value}, FrxL K vs us → Pw (VRel w Z ρ) vs cs → Pw (VRel w (fun k => B.heap.size ≤ k ∧ k < w.heap.size) ρ2) us cs := by
      intro vs us cs h
      induction h generalizing cs with
      | nil => intro hp; exact ⟨hp.1, fun i u c hu => by simp at hu⟩
      | @cons v u r s hvu _ ih =>
        intro hp
        match cs, hp with
        | c :: ct, hp =>
          have h0 := hp.2 0 v c rfl rfl
          have ht : Pw (VRel w Z ρ) r ct := ⟨by have := hp.1; simpa using this, fun i u c hu hc => hp.2 (i + 1) u c (by simpa using hu) (by simpa using hc)⟩
          exact Pw.cons (hvu B w Z ρ ρ2 c hr h0) (ih ht)
        | [], hp => have := hp.1; simp at this
    have := key h ⟨h1, r1⟩
    exact .ag this.1 this.2
end Go.Proofs.YtmmjgbdihgdekaaDoor

/- Sets of texts alone: slices, Clone, Clip, Of. -/

namespace Go.Proofs.YtmmjgbdihgdekaaDoor
open Go Go.RowKit
set_option linter.unusedSimpArgs false
set_option linter.unusedVariables false
set_option maxRecDepth 100000
set_option maxHeartbeats 1000000
end Go.Proofs.YtmmjgbdihgdekaaDoor

/- Sets of texts alone: Sort, Compact, Clip, Of. -/
namespace Go.Proofs.YtmmjgbdihgdekaaDoor
open Go Go.RowKit
set_option linter.unusedSimpArgs false
set_option linter.unusedVariables false
set_option maxRecDepth 100000
set_option maxHeartbeats 1000000
end Go.Proofs.YtmmjgbdihgdekaaDoor

/- The names of a form, and the document's, walked. -/
namespace Go.Proofs.YtmmjgbdihgdekaaDoor
open Go Go.RowKit
set_option linter.unusedSimpArgs false
set_option linter.unusedVariables false
set_option maxRecDepth 100000
set_option maxHeartbeats 16000000
end Go.Proofs.YtmmjgbdihgdekaaDoor

/- The law PairsParses, walked. -/
namespace Go.Proofs.YtmmjgbdihgdekaaDoor
open Go Go.RowKit
set_option linter.unusedSimpArgs false
set_option linter.unusedVariables false
set_option maxRecDepth 100000
set_option maxHeartbeats 16000000
/-- Pairs that are short, and few. -/
def ShortP (n : Nat) (l : List PF) : Prop := ∀ f ∈ l, f.1.length ≤ n ∧ f.2.length ≤ n
end Go.Proofs.YtmmjgbdihgdekaaDoor

