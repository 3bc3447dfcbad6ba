/- A call told at names of its own is one at any names; blocks that it isn't given stay. Over any program. -/
import Derived.Test.YtbnemkdkeaiaoaaVe
namespace Go.Proofs.Ytbnemkdkeaiaoaa
open Go Go.RowKit
set_option linter.unusedSimpArgs false
set_option linter.unusedVariables false
def keepO (D : List Nat) : List (Nat × VObj) → List (Nat × VObj)
  | [] => []
  | (k, x) :: r => match memN k D with
    | true => (k, x) :: keepO D r
    | false => keepO D r
theorem hget_keepO (D : List Nat) (b : Nat) : ∀ (O : List (Nat × VObj)), hget (keepO D O) b = match memN b D with
    | true => hget O b
    | false => none
  | [] => by simp only [keepO, hget]; split <;> rfl
  | (k, x) :: r => by
    have ih := hget_keepO D b r
    unfold keepO
    rw [hget_cons k b x r]
    by_cases e : k = b
    · subst e
      cases hm : memN k D with
      | true => simp only [hget_cons, if_true]
      | false => rw [hm] at ih; simp only [ih]
    · rw [if_neg e]
      cases hm : memN k D with
      | true => simp only [hget_cons, if_neg e]; exact ih
      | false => exact ih
theorem hget_restO (D : List Nat) (b : Nat) : ∀ (O : List (Nat × VObj)), hget (restO D O) b = match memN b D with
    | true => none
    | false => hget O b
  | [] => by simp only [restO, hget]; split <;> rfl
  | (k, x) :: r => by
    have ih := hget_restO D b r
    unfold restO
    rw [hget_cons k b x r]
    by_cases e : k = b
    · subst e
      cases hm : memN k D with
      | true => rw [hm] at ih; simp only [ih]
      | false => simp only [hget_cons, if_true]
    · rw [if_neg e]
      cases hm : memN k D with
      | true => exact ih
      | false => simp only [hget_cons, if_neg e]; exact ih
/-- The names behind a call: those of old, and the new ones in their order. -/
def backR (R : List (Nat × Nat)) (n1 nx : Nat) : Nat → List (Nat × Nat)
  | 0 => R.map fun p => (p.2, p.1)
  | k + 1 => (n1 + k, nx + k) :: backR R n1 nx k
theorem backR_mem {R : List (Nat × Nat)} {n1 nx : Nat} : ∀ {k : Nat} {p : Nat × Nat}, p ∈ backR R n1 nx k → (∃ q ∈ R, p = (q.2, q.1)) ∨ ∃ i, i < k ∧ p = (n1 + i, nx + i)
  | 0, p, h => by
    obtain ⟨q, h1, h2⟩ := List.mem_map.1 h
    exact .inl ⟨q, h1, h2.symm⟩
  | k + 1, p, h => by
    rcases List.mem_cons.1 h with rfl | h
    · exact .inr ⟨k, Nat.lt_succ_self _, rfl⟩
    · rcases backR_mem h with h | ⟨i, h1, h2⟩
      · exact .inl h
      · exact .inr ⟨i, Nat.lt_succ_of_lt h1, h2⟩
/-- What is handed back, under the caller's names. -/
structure Back (R : List (Nat × Nat)) (n1 nx : Nat) (K1 : Heap) (v u : VV) (O2 : List (Nat × VObj)) : Prop where
  wf : (wfR 0 (nx + (K1.next - n1)) (backR R n1 nx (K1.next - n1)) && nodupB (ksOf (backR R n1 nx (K1.next - n1)) 0 O2) && O2.all (fun p => (srcN (backR R n1 nx (K1.next - n1)) p.1).isSome) && O2.all (fun p => p.2.rw)) = true
  val : RenV (backR R n1 nx (K1.next - n1)) 0 v u
  objs : RenG (backR R n1 nx (K1.next - n1)) 0 K1 O2
section
variable {P : Program} {f : FuncId} {args args' : List VV} {H : Heap} {O1 : List (Nat × VObj)} {n1 : Nat} {Q Q' : VV → Heap → Prop}
theorem srcOf0 (R : List (Nat × Nat)) (b : Nat) : srcOf R 0 b = srcN R b := srcOf_ge (Nat.zero_le _)
theorem VCall.ren (R : List (Nat × Nat)) (hw : (wfR 0 n1 R && nodupB (ksOf R 0 O1) && O1.all fun p => Nat.blt p.1 n1) = true) (hren : RenG R 0 H O1) (hargs : RenL R 0 args args') (h : VCall P f args' ⟨O1, n1⟩ Q)
    (hQ : ∀ v K1, Q v K1 → ∃ u O2, Back R n1 H.next K1 v u O2 ∧ Q' u ⟨O2, H.next + (K1.next - n1)⟩) : VCall P f args H Q' := fun B M Z ρ w ra h1 h2 => by
  simp only [Bool.and_eq_true] at hw
  obtain ⟨⟨k1, k2⟩, k3⟩ := hw
  have hH := hren.toH
  have hl : Links R 0 ρ (fun b => (srcN R b).bind ρ) := ⟨fun b hb => by omega, fun p hp c hc => by
    obtain ⟨g1, g2, g3⟩ := wfR_src k1 p hp
    simp only [g3, Option.bind_some]
    exact hc⟩
  have r1 : Rel B M Z (fun b => (srcN R b).bind ρ) ⟨O1, n1⟩ w := by
    refine ⟨h1.glob, h1.os, h1.tape, h1.output, h1.size, h1.frame, fun b hb => ?_, fun b x hx => ?_, ?_, ?_, h1.zlt⟩
    · have hb : n1 ≤ b := hb
      show (srcN R b).bind ρ = none
      cases hs : srcN R b with
      | none => rfl
      | some a =>
        have := (wfR_src k1 _ (srcN_mem hs)).2.1
        simp only at this
        omega
    · have g5 : (b, x) ∈ O1 := by
        rcases hH.get hx with ⟨_, _, g⟩ | ⟨a, x0, g1, g2, g3, g4, g5⟩
        · exact g
        · exact g5
      have := List.all_eq_true.1 k3 _ g5
      exact blt_iff.1 this
    · intro b b' k N N' x x' hx hx' hb hb'
      obtain ⟨c, hc, _⟩ := Option.bind_eq_some_iff.1 hb
      obtain ⟨c', hc', _⟩ := Option.bind_eq_some_iff.1 hb'
      obtain ⟨a, x0, g1, g2, g3, g4, _⟩ := hH.getK hx ((srcOf0 R b).trans hc)
      obtain ⟨a', x0', g1', g2', g3', g4', _⟩ := hH.getK hx' ((srcOf0 R b').trans hc')
      rw [srcOf0] at g1 g1'
      simp only [g1, g1', Option.bind_some] at hb hb'
      have := h1.inj a a' k N N' x0 x0' g2 g2' hb hb'
      subst this
      exact hH.inj k2 hx hx' ((srcOf0 R b).trans g1) ((srcOf0 R b').trans g1')
    · intro b x hx
      rcases hH.get hx with ⟨g1, g2, _⟩ | ⟨a, x0, g1, g2, g3, g4, _⟩
      · rw [srcOf0] at g1
        exact .inl ⟨g2, by simp only [g1, Option.bind_none]⟩
      rw [srcOf0] at g1
      rcases h1.obj a x0 g2 with ⟨q1, q2⟩ | ⟨k, N, o, q1, q2, q3, q4, q5⟩
      · exact .inl ⟨g3.ghost q1, by simp only [g1, Option.bind_some]; exact q2⟩
      exact .inr ⟨k, N, o, by simp only [g1, Option.bind_some]; exact q1, q2, g3.orel hl q3, q4, fun h => q5 (by rw [← g3.rw]; exact h)⟩
  refine (h B M Z _ w ra r1 (hargs.pw hl h2)).mono fun e w' ⟨v', v, K1, Z', ρ2, he, q, e1, r2, v2⟩ => ?_
  obtain ⟨u, O2, hb, q'⟩ := hQ v K1 q
  obtain ⟨hwf, hval, hobj⟩ := hb
  simp only [Bool.and_eq_true] at hwf
  obtain ⟨⟨⟨w1, w2⟩, w3⟩, w4⟩ := hwf
  generalize hR2 : backR R n1 H.next (K1.next - n1) = R2 at *
  generalize hnx : H.next + (K1.next - n1) = nx2 at *
  have hO := hobj.toH
  -- what the names stand for
  have key : ∀ p ∈ R2, (if p.2 < H.next then ρ p.2 else (srcN R2 p.2).bind ρ2) = ρ2 p.1 := by
    intro p hp
    obtain ⟨g1, g2, g3⟩ := wfR_src w1 p hp
    by_cases hlt : p.2 < H.next
    · rw [if_pos hlt]
      rw [← hR2] at hp
      rcases backR_mem hp with ⟨q0, hq, rfl⟩ | ⟨i, hi, rfl⟩
      · obtain ⟨f1, f2, f3⟩ := wfR_src k1 q0 hq
        have := e1.rold q0.2 f2
        simp only [f3, Option.bind_some] at this
        exact this.symm
      · simp only at hlt; omega
    · rw [if_neg hlt, g3]; rfl
  have hl2 : Links R2 0 ρ2 (fun b => if b < H.next then ρ b else (srcN R2 b).bind ρ2) := ⟨fun b hb => by omega, fun p hp c hc => by
    show (if p.2 < H.next then ρ p.2 else (srcN R2 p.2).bind ρ2) = some c
    rw [key p hp]; exact hc⟩
  refine ⟨v', u, _, Z', fun b => if b < H.next then ρ b else (srcN R2 b).bind ρ2, he, q', ⟨by show H.next ≤ nx2; omega, fun b hb => if_pos hb, e1.zsub, fun b k hk => ?_, e1.keep, e1.size, e1.znew⟩, ?_, hval _ _ _ _ _ hl2 v2⟩
  · have hlt : b < H.next := by
      rcases Nat.lt_or_ge b H.next with g | g
      · exact g
      · rw [h1.dom b g] at hk; cases hk
    rw [if_pos hlt]; exact hk
  · have src : ∀ b y, hget O2 b = some y → ∃ a x, srcN R2 b = some a ∧ K1.get a = some x ∧ RenO R2 0 x y := fun b y hy => by
      rcases hO.get hy with ⟨g1, g2, g3⟩ | ⟨a, x, g1, g2, g3, g4, g5⟩
      · have := List.all_eq_true.1 w3 _ g3
        simp only at this
        rw [srcOf0] at g1
        rw [g1] at this
        cases this
      · exact ⟨a, x, (srcOf0 R2 b).symm.trans g1, g2, g3⟩
    refine ⟨r2.glob, r2.os, r2.tape, r2.output, r2.size, r2.frame, fun b hb => ?_, fun b x hx => ?_, ?_, ?_, r2.zlt⟩
    · have hb : nx2 ≤ b := hb
      show (if b < H.next then ρ b else (srcN R2 b).bind ρ2) = none
      rw [if_neg (by omega)]
      cases hs : srcN R2 b with
      | none => rfl
      | some a =>
        have := (wfR_src w1 _ (srcN_mem hs)).2.1
        simp only at this
        omega
    · obtain ⟨a, x0, g1, _⟩ := src b x hx
      exact (wfR_src w1 _ (srcN_mem g1)).2.1
    · intro b b' k N N' x x' hx hx' hb hb'
      obtain ⟨a, x0, g1, g2, g3⟩ := src b x hx
      obtain ⟨a', x0', g1', g2', g3'⟩ := src b' x' hx'
      have e2 := key (a, b) (srcN_mem g1)
      have e2' := key (a', b') (srcN_mem g1')
      simp only at e2 e2' hb hb'
      rw [e2] at hb
      rw [e2'] at hb'
      have := r2.inj a a' k N N' x0 x0' g2 g2' hb hb'
      subst this
      exact hO.inj w2 hx hx' ((srcOf0 R2 b).trans g1) ((srcOf0 R2 b').trans g1')
    · intro b x hx
      obtain ⟨a, x0, g1, g2, g3⟩ := src b x hx
      have e2 := key (a, b) (srcN_mem g1)
      simp only at e2
      show (x.ghost = true ∧ (if b < H.next then ρ b else (srcN R2 b).bind ρ2) = none) ∨ _
      rcases r2.obj a x0 g2 with ⟨q1, q2⟩ | ⟨k, N, o, q1, q2, q3, q4, q5⟩
      · exact .inl ⟨g3.ghost q1, e2.trans q2⟩
      exact .inr ⟨k, N, o, e2.trans q1, q2, g3.orel hl2 q3, q4, fun h => q5 (by rw [← g3.rw]; exact h)⟩
/-- D: the blocks that are given. -/
theorem VCall.at (D : List Nat) (R : List (Nat × Nat)) (hw : (wfR 0 n1 R && nodupB (ksOf R 0 O1) && O1.all fun p => Nat.blt p.1 n1) = true) (hren : RenG R 0 ⟨keepO D H.objs, H.next⟩ O1) (hargs : RenL R 0 args args') (h : VCall P f args' ⟨O1, n1⟩ Q)
    (hQ : ∀ v K1, Q v K1 → ∃ u O2, Back R n1 H.next K1 v u O2 ∧ (O2.all fun p => !(memN p.1 ((restO D H.objs).map (·.1)))) = true ∧ Q' u ⟨O2 ++ restO D H.objs, H.next + (K1.next - n1)⟩) : VCall P f args H Q' := by
  have hk := fun b => hget_keepO D b H.objs
  have hr := fun b => hget_restO D b H.objs
  have h3 := VCall.ren (P := P) (f := f) (args := args) (H := ⟨keepO D H.objs, H.next⟩) (Q' := fun u K => ∃ v K1 O2, Q v K1 ∧ Back R n1 H.next K1 v u O2 ∧ (O2.all fun p => !(memN p.1 ((restO D H.objs).map (·.1)))) = true ∧ Q' u ⟨O2 ++ restO D H.objs, H.next + (K1.next - n1)⟩ ∧ K = ⟨O2, H.next + (K1.next - n1)⟩) R hw hren hargs h (fun v K1 q => by
    obtain ⟨u, O2, b1, b2, b3⟩ := hQ v K1 q
    exact ⟨u, O2, b1, v, K1, O2, q, b1, b2, b3, rfl⟩)
  refine (VCall.framed (H := H) ⟨keepO D H.objs, H.next⟩ (restO D H.objs) rfl (fun b x hx => ?_) (fun b x hx => ?_) ⟨fun b x hx => ?_⟩ h3 (fun u K q => ?_)).mono ?_
  · simp only [Heap.get] at hx ⊢
    rw [hk] at hx
    split at hx
    · exact hx
    · cases hx
  · simp only [Heap.get]
    rw [hr] at hx
    split at hx
    · cases hx
    · exact hx
  · simp only [Heap.get]
    rw [hr] at hx
    rw [hk]
    split at hx
    · cases hx
    · rfl
  · obtain ⟨v, K1, O2, q1, b1, b2, b3, rfl⟩ := q
    have hwf := b1.wf
    simp only [Bool.and_eq_true] at hwf
    refine ⟨allRw_of hwf.2, ⟨fun b x hx => ?_⟩⟩
    have hin : b ∈ (restO D H.objs).map (·.1) := by
      have key : ∀ (l : List (Nat × VObj)), hget l b = some x → b ∈ l.map (·.1) := by
        intro l
        induction l with
        | nil => intro h; simp [hget] at h
        | cons p r ih =>
          obtain ⟨k, y⟩ := p
          intro h
          rw [hget_cons] at h
          split at h
          · rename_i e; subst e; simp
          · exact List.mem_cons_of_mem _ (ih h)
      exact key _ hx
    cases ho : hget O2 b with
    | none => exact ho
    | some y =>
      have hbo : ∃ p ∈ O2, p.1 = b := by
        have key : ∀ (l : List (Nat × VObj)), hget l b = some y → ∃ p ∈ l, p.1 = b := by
          intro l
          induction l with
          | nil => intro h; simp [hget] at h
          | cons p r ih =>
            obtain ⟨k, z⟩ := p
            intro h
            rw [hget_cons] at h
            split at h
            · rename_i e; exact ⟨(k, z), by simp, e⟩
            · obtain ⟨q, g1, g2⟩ := ih h
              exact ⟨q, List.mem_cons_of_mem _ g1, g2⟩
        exact key _ ho
      obtain ⟨p, hp, rfl⟩ := hbo
      have := List.all_eq_true.1 b2 p hp
      rw [memN_iff.2 hin] at this
      cases this
  · rintro u K2 ⟨K, ⟨v, K1, O2, q1, b1, b2, b3, rfl⟩, rfl⟩
    exact b3
end
/-- A slice that may be nil, and has something: a slice of its block. -/
theorem GWP'.ungs {P : Program} {r : Option Nat} {c : Code} {Q : Exit → VSt → Prop} {ts : List VV} {H : Heap} {m : List Nat} {b n z : Nat} {vs : List VV} (i : Nat) (hi : ts[i]? = some (.gs b n z)) (hg : H.get b = some (.opt vs)) (hn : n ≠ 0) (h : GWP P r c Q ⟨ts.set i (.sl b 0 n none z), H.set b (.cells true vs), m⟩) : GWP' P r c Q ⟨ts, H, m⟩ := ⟨⟨fun B M Z ρ a w rr QE g0 g1 g2 g3 => by
  obtain ⟨y, hy, hv⟩ := g2.tmps.get hi
  cases hv with
  | gs0 => exact absurd rfl hn
  | gs hk hcap hz h0 =>
    have hs : VRel w Z ρ (.sl b 0 n none z) _ := VRel.sl hk hcap (fun _ e => by cases e) (fun _ => by omega)
    have hp := g2.tmps.set i hs
    rw [List.ext_getElem? (l₁ := a.tmps.toList.set i _) (l₂ := a.tmps.toList) (fun j => by
      by_cases e : i = j
      · subst e
        rw [List.getElem?_set_self (List.getElem?_eq_some_iff.1 hy).1, hy]
      · rw [List.getElem?_set_ne e])] at hp
    exact h.out B M Z ρ a w rr QE g0 (g1.toCells hg hk) ⟨hp, g2.marks⟩ g3⟩⟩
end Go.Proofs.Ytbnemkdkeaiaoaa
