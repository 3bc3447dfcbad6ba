/- A contract of the kit that rewrites a row in place, as a call of the walk. Over any program. -/
import Derived.Test.YtdgohabgjgdfeaaVd
import Derived.Test.YtdgohabgjgdfeaaVh
import Derived.Lib.RowBridge
import Derived.Sort.Grow
namespace Go.Proofs.Ytdgohabgjgdfeaa
open Go Go.RowKit Go.Sort
set_option linter.unusedSimpArgs false
set_option linter.unusedVariables false
theorem VCall.row {P : Program} {f : FuncId} {H : Heap} {b n : Nat} {c : Option Nat} {α : Type} [Inhabited α] (enc : α → Value) (encV : α → VV) (hto : ∀ x w Z ρ, VRel w Z ρ (encV x) (enc x)) (hinv : ∀ x w Z ρ y, VRel w Z ρ (encV x) y → y = enc x)
    (zs ys : List α) (hl : ys.length = zs.length) (hg : H.get b = some (.cells true (zs.map encV))) (hn : n = zs.length) (res : Nat → Nat → Value) (rv : VV)
    (hres : ∀ k c' w Z ρ, VRel w Z ρ (.sl b 0 n c 1) (.slice (some ⟨k, 0, none⟩) n c') → VRel w Z ρ rv (res k c'))
    (h : ∀ k c' w, Holds enc w k 0 zs.toArray → k < w.heap.size → zs.length ≤ c' → Calls P f #[.slice (some ⟨k, 0, none⟩) zs.length c'] w fun e w' => e = .returned (res k c') ∧ ∃ m os, w' = grow (putRow enc (Sort.ahead w m) k 0 ys.toArray) os) :
    VCall P f [.sl b 0 n c 1] H (fun v K => v = rv ∧ K = H.set b (.cells true (ys.map encV))) := fun B M Z ρ w ra h1 h2 => by
  obtain ⟨hlen, hrel2⟩ := h2
  match hra : ra.toList, hlen with
  | [y], _ =>
    have hv := hrel2 0 _ y rfl (by rw [hra]; rfl)
    obtain rfl : ra = #[y] := by
      cases ra
      simp only at hra
      rw [hra]
    cases hv with
    | @sl _ _ _ k N c' _ _ hk hcap hc hz =>
      obtain ⟨k', N', cs, t, fr, g1, g2, g3, g4, g5⟩ := h1.at_ hg
      rw [hk] at g1; injection g1 with g1; injection g1 with g1 g1'; subst g1 g1'
      subst hn
      have hgl := g4.length
      simp only [List.length_map, Array.length_toList] at hgl
      have hcell : ∀ j (hj : j < zs.length), cs[j]? = some (enc zs[j]) := fun j hj => by
        obtain ⟨c0, hc0, hr0⟩ := g4 j (encV zs[j]) (by rw [List.getElem?_map, List.getElem?_eq_getElem hj]; rfl)
        rw [hinv _ _ _ _ _ hr0] at hc0
        simpa using hc0
      have hH : Holds enc w k 0 zs.toArray := fun j hj => by
        have hj' : j < zs.length := by simpa using hj
        refine ⟨?_, ?_⟩
        · rw [Nat.zero_add, cell_of_cells g2, hcell j hj']
          congr 2
          rw [getElem!_pos zs.toArray j hj]
          simp
        · rw [Nat.zero_add, frozen_of_cells g2]
          exact nofr g5 (by omega)
      refine (h k c' w hH (h1.lt hg hk) hcap).mono ?_
      rintro e w' ⟨rfl, m, os, rfl⟩
      have e1 := Lib.putRow_eq_setCells enc w k 0 zs.toArray ys m hH (by simpa using hl)
      rw [e1]
      obtain ⟨s1, s2, s3, s4, s5, s6⟩ := heap_setCells k t fr (ys.map enc) 0 (w.drewN m) cs g2
      have hsize : (setRun cs.toList 0 (ys.map enc)).length = cs.size := by rw [length_setRun]; simp
      obtain ⟨x1, r1⟩ := h1.turn (y := .cells true (ys.map encV)) hg hk rfl rfl s4 s5 s6 s3 s2 s1 ⟨_, t, fr, rfl, by simpa using hsize.trans g3, (fun i u hu => by
        have hi : i < ys.length := by
          have := (List.getElem?_eq_some_iff.1 hu).1
          simpa using this
        rw [List.getElem?_map, List.getElem?_eq_getElem hi] at hu
        injection hu with hu
        subst hu
        refine ⟨enc ys[i], ?_, hto _ _ _ _⟩
        show (setRun cs.toList 0 (ys.map enc))[i]? = _
        rw [getElem?_setRun _ _ _ _ (by simp; omega), if_pos (by simp; omega), Nat.sub_zero, List.getElem?_map, List.getElem?_eq_getElem hi]
        rfl), g5⟩
      obtain ⟨x2, r2⟩ := r1.step (Z' := Z) (w' := grow ((w.drewN m).setCells k 0 (ys.map enc)) os) rfl rfl rfl (by show _ ≤ (_ ++ os).size; simp) (fun j hj => by show (_ ++ os)[j]? = _; rw [Array.getElem?_append_left hj]) (fun _ h => h) (fun _ h => .inl h)
      exact ⟨res k c', rv, _, Z, ρ, rfl, ⟨rfl, rfl⟩, x1.trans x2, r2, hres _ _ _ _ _ (.sl hk hcap hc hz)⟩
theorem restO_nil : ∀ (O : List (Nat × VObj)), restO [] O = O
  | [] => rfl
  | (a, b) :: r => by simp [restO, memN, restO_nil r]
theorem beqN_ne {x y : Nat} (h : x ≠ y) : Nat.beq x y = false := by
  cases hh : Nat.beq x y
  · rfl
  · exact absurd (Nat.eq_of_beq_eq_true hh) h
theorem memN_dom {O : List (Nat × VObj)} {b : Nat} (h : memN b (O.map (·.1)) = true) : ∃ x, hget O b = some x := by
  have key : ∀ (O : List (Nat × VObj)), b ∈ O.map (·.1) → ∃ x, hget O b = some x := by
    intro O
    induction O with
    | nil => intro h; simp at h
    | cons p r ih =>
      obtain ⟨k, x⟩ := p
      intro h
      rw [hget_cons]
      split
      · exact ⟨_, rfl⟩
      · rename_i hne
        rcases List.mem_cons.1 h with e | h
        · exact absurd e.symm hne
        · exact ih h
  exact key O (memN_iff.1 h)
/-- A call with plain arguments that hands back a slice of a block of its own. -/
theorem VCall.newG {P : Program} {f : FuncId} {args : List VV} {n z : Nat} {vs : List VV} (ha : ∀ v ∈ args, Nameless v) (hn : ∀ v ∈ vs, Nameless v) (h : VCall P f args ⟨[], 0⟩ (fun v K => v = .gs 0 n z ∧ K = ⟨[(0, .opt vs)], 1⟩)) (H : Heap) :
    VCall P f args H (fun v K => v = .gs H.next n z ∧ K = ⟨(H.next, .opt vs) :: H.objs, H.next + 1⟩) := by
  refine VCall.live fun hlive => ?_
  refine VCall.at (n1 := 0) (O1 := []) [] [] rfl trivial (RenL.of ha) h ?_
  rintro v K ⟨rfl, rfl⟩
  have e3 : Nat.blt H.next (H.next + 1) = true := blt_iff.2 (by omega)
  have s1 : srcOf [(0, H.next)] 0 H.next = some 0 := by simp only [srcOf0, srcN, Nat.beq_refl]
  refine ⟨.gs H.next n z, [(H.next, .opt vs)], ⟨?_, .gs (List.Mem.head _), ?_⟩, ?_, rfl, ?_⟩
  · show (wfR 0 (H.next + 1) [(0, H.next)] && nodupB (ksOf [(0, H.next)] 0 [(H.next, VObj.opt vs)]) && ((srcN [(0, H.next)] H.next).isSome && true) && (true && true)) = true
    have s1' := (srcOf0 _ _).symm.trans s1
    simp only [ksOf, s1, s1']
    simp only [wfR, srcN, e3]
    rfl
  · refine ⟨?_, trivial⟩
    show (match srcOf [(0, H.next)] 0 H.next with
      | some a => _
      | none => _)
    rw [s1]
    exact ⟨_, rfl, .opt (.of hn)⟩
  · have k3 : memN H.next ((restO [] H.objs).map (·.1)) = false := by
      cases hc : memN H.next ((restO [] H.objs).map (·.1)) with
      | false => rfl
      | true =>
        rw [restO_nil] at hc
        obtain ⟨x, hx⟩ := memN_dom hc
        have := hlive _ _ hx
        omega
    simp only [List.all_cons, List.all_nil, k3]
    rfl
  · rw [restO_nil]; rfl
/-- A contract at a slice without elements that leaves the world as it is. -/
theorem VCall.emp {P : Program} {f : FuncId} {H : Heap} (res : Option Addr → Nat → Value) (rv : VV) (hres : ∀ p c w Z ρ, VRel w Z ρ rv (res p c)) (h : ∀ p c w, Calls P f #[.slice p 0 c] w fun e w' => e = .returned (res p c) ∧ w' = w) : VCall P f [.ro 0 []] H (fun v K => v = rv ∧ K = H) := fun B M Z ρ w ra h1 h2 => by
  obtain ⟨hlen, hrel2⟩ := h2
  match hra : ra.toList, hlen with
  | [y], _ =>
    have hv := hrel2 0 _ y rfl (by rw [hra]; rfl)
    obtain rfl : ra = #[y] := by
      cases ra
      simp only at hra
      rw [hra]
    have : ∃ p c, y = .slice p 0 c := by
      cases hv with
      | ro => exact ⟨_, _, rfl⟩
      | ro0 => exact ⟨_, _, rfl⟩
    obtain ⟨p, c, rfl⟩ := this
    refine (h p c w).mono ?_
    rintro e w' ⟨rfl, rfl⟩
    exact ⟨_, rv, H, Z, ρ, rfl, ⟨rfl, rfl⟩, Ext.refl _ _ _ _, h1, hres _ _ _ _ _⟩
theorem VCall.argV {P : Program} {f : FuncId} {args args' : List VV} {H : Heap} {Q : VV → Heap → Prop} (hw : ∀ w Z ρ cs, Pw (VRel w Z ρ) args cs → Pw (VRel w Z ρ) args' cs) (h : VCall P f args' H Q) : VCall P f args H Q :=
  fun B M Z ρ w ra h1 h2 => h B M Z ρ w ra h1 (hw _ _ _ _ h2)
theorem weak_one {v u : VV} (h : ∀ w Z ρ y, VRel w Z ρ v y → VRel w Z ρ u y) : ∀ w Z ρ cs, Pw (VRel w Z ρ) [v] cs → Pw (VRel w Z ρ) [u] cs := fun w Z ρ cs hp => by
  refine ⟨hp.1, fun i a x hu hx => ?_⟩
  cases i with
  | zero =>
    simp at hu
    subst hu
    exact h _ _ _ _ (hp.2 0 _ x rfl hx)
  | succ i => simp at hu
theorem weak_gsE {b z : Nat} {w : World} {Z : Nat → Prop} {ρ : Nat → Option (Nat × Nat)} {y : Value} (h : VRel w Z ρ (.gs b 0 z) y) : VRel w Z ρ (.ro 0 []) y := by
  cases h with
  | gs0 => exact .ro0
  | gs _ _ _ h0 => exact absurd rfl h0
theorem weak_gsS {b n z : Nat} (hn : n ≠ 0) {w : World} {Z : Nat → Prop} {ρ : Nat → Option (Nat × Nat)} {y : Value} (h : VRel w Z ρ (.gs b n z) y) : VRel w Z ρ (.sl b 0 n none z) y := by
  cases h with
  | gs0 => exact absurd rfl hn
  | gs hk hcap hz h0 => exact .sl hk hcap (fun _ e => by cases e) (fun _ => by omega)
/-- A slice that is not empty, and its block: known whole. -/
theorem VCall.gsC {P : Program} {f : FuncId} {H : Heap} {Q : VV → Heap → Prop} {b n z : Nat} {vs : List VV} (hg : H.get b = some (.opt vs)) (hn : n ≠ 0) (h : VCall P f [.sl b 0 n none z] (H.set b (.cells true vs)) Q) : VCall P f [.gs b n z] H Q :=
  fun B M Z ρ w ra h1 h2 => by
    obtain ⟨hlen, hrel⟩ := h2
    match hra : ra.toList, hlen with
    | [y], _ =>
      have hv := hrel 0 _ y rfl (by rw [hra]; rfl)
      cases hv with
      | gs0 => exact absurd rfl hn
      | gs hk hcap hz h0 =>
        refine h B M Z ρ w ra (h1.toCells hg hk) (weak_one (fun w Z ρ y => weak_gsS hn) _ _ _ _ ⟨by rw [hra]; rfl, fun i u x hu hx => ?_⟩)
        rw [hra] at hx
        cases i with
        | zero =>
          simp at hu hx
          subst hu hx
          exact .gs hk hcap hz h0
        | succ i => simp at hu
theorem GWP'.weakT {P : Program} {r : Option Nat} {c : Code} {Q : Exit → VSt → Prop} {ts : List VV} {H : Heap} {m : List Nat} {v u : VV} (i : Nat) (hi : ts[i]? = some v) (hw : ∀ w Z ρ y, VRel w Z ρ v y → VRel w Z ρ u y) (h : GWP P r c Q ⟨ts.set i u, H, m⟩) : GWP' P r c Q ⟨ts, H, m⟩ :=
  ⟨⟨VWP.weaken (s := ⟨ts, H, m⟩) (s1 := ⟨ts.set i u, H, m⟩) rfl rfl (fun _ _ h => h) (fun w Z ρ cs hp => ⟨by have := hp.1; simpa using this, fun j x y hx hy => by
    by_cases e : i = j
    · subst e
      have hl := (List.getElem?_eq_some_iff.1 hi).1
      have hx : (ts.set i u)[i]? = some x := hx
      rw [List.getElem?_set_self hl] at hx
      injection hx with hx
      subst hx
      exact hw _ _ _ _ (hp.2 i v y hi hy)
    · have hx : (ts.set i u)[j]? = some x := hx
      rw [List.getElem?_set_ne e] at hx
      exact hp.2 j x y hx hy⟩) h.out⟩⟩
/-- A part of a slice, known by what append reads of it. -/
theorem GOp'.slV {P : Program} {o : Oper} {ts : List VV} {H : Heap} {K : VV → Heap → Prop} {t e : TypeId} {x : Operand} {lo hi : Option Operand} {b n l h : Nat} {vs : List VV} (ho : o.op = .slice t x lo hi none) (hu : P.underlying t = some (.slice e)) (hz : vsize P e = some 1) (hx : veval ts x = .sl b 0 n none 1) (hb : vbounds n n (lo.map (veval ts)) (hi.map (veval ts)) none = some (l, h, none)) (hlh : l ≤ h) (hh : h ≤ n) (hlen : vs.length = n)
    (k : ∀ u, ((∃ q m, u = .sl b q m none 1) ∨ u = .ro 0 []) → (∀ H' : Heap, H'.get b = some (.cells true vs) → velems 1 u H' = some (h - l, (vs.drop l).take (h - l))) → K u H) : GOp' P o ts H K := by
  have hel : ∀ q : Nat, ∀ H' : Heap, H'.get b = some (.cells true vs) → q = l → velems 1 (.sl b q (h - l) none 1) H' = some (h - l, (vs.drop l).take (h - l)) := fun q H' hg e => by
    subst e
    simp only [velems, hg]
    rw [if_pos (by omega), Nat.mul_one]
  by_cases h0 : l = 0
  · subst h0
    refine GOp'.via (v := .sl b 0 h none 1) (H' := H) ?_ (k _ (.inl ⟨_, _, rfl⟩) fun H' hg => hel 0 H' hg rfl)
    simp only [vop, ho, hx]
    simp [vslice, hu, hz, hb]
    rfl
  · by_cases hl : l = h
    · subst hl
      refine GOp'.via (v := .ro 0 []) (H' := H) ?_ (k _ (.inr rfl) fun H' hg => by simp [velems])
      simp only [vop, ho, hx]
      simp [vslice, hu, hz, hb, h0]
      rfl
    · refine GOp'.via (v := .sl b (0 + l * 1) (h - l) none 1) (H' := H) ?_ (k _ (.inl ⟨_, _, rfl⟩) fun H' hg => hel _ H' hg (by omega))
      simp only [vop, ho, hx]
      simp [vslice, hu, hz, hb, h0, show ¬ h = l by omega]
      rfl
theorem Frz.ag {K : Heap} : ∀ {vs us : List VV}, FrzL K vs us → Frz K (.ag vs) (.ag us) := fun {vs us} h B w Z ρ ρ2 y hr hv => by
  cases hv with
  | @ag _ cs h1 r1 =>
    obtain ⟨cs⟩ := cs
    simp only at h1 r1
    have key : ∀ {vs us : List VV} {cs : List Value}, FrzL K vs us → Pw (VRel w Z ρ) vs cs → Pw (VRel w (fun k => Z k ∨ (B.heap.size ≤ k ∧ k < w.heap.size)) ρ2) us cs := by
      intro vs us cs h
      induction h generalizing cs with
      | nil => intro hp; exact ⟨hp.1, fun i u c hu => by simp at hu⟩
      | @cons v u r s hvu _ ih =>
        intro hp
        match cs, hp with
        | c :: ct, hp =>
          have h0 := hp.2 0 v c rfl rfl
          have ht : Pw (VRel w Z ρ) r ct := ⟨by have := hp.1; simpa using this, fun i u c hu hc => hp.2 (i + 1) u c (by simpa using hu) (by simpa using hc)⟩
          exact Pw.cons (hvu B w Z ρ ρ2 c hr h0) (ih ht)
        | [], hp => have := hp.1; simp at this
    have := key h ⟨h1, r1⟩
    exact .ag this.1 this.2
end Go.Proofs.Ytdgohabgjgdfeaa
