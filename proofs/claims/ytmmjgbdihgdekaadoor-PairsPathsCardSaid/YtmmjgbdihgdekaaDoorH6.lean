import Derived.Test.YtmmjgbdihgdekaaDoorH4
/- A call told at names of its own is one at any names; blocks that it isn't given stay. Over any program. -/
namespace Go.Proofs.YtmmjgbdihgdekaaDoor
open Go Go.RowKit
set_option linter.unusedSimpArgs false
set_option linter.unusedVariables false
def keepO (D : List Nat) : List (Nat × VObj) → List (Nat × VObj)
  | [] => []
  | (k, x) :: r => match memN k D with
    | true => (k, x) :: keepO D r
    | false => keepO D r
theorem hget_keepO (D : List Nat) (b : Nat) : ∀ (O : List (Nat × VObj)), hget (keepO D O) b = match memN b D with
    | true => hget O b
    | false => none
  | [] => by simp only [keepO, hget]; split <;> rfl
  | (k, x) :: r => by
    have ih := hget_keepO D b r
    unfold keepO
    rw [hget_cons k b x r]
    by_cases e : k = b
    · subst e
      cases hm : memN k D with
      | true => simp only [hget_cons, if_true]
      | false => rw [hm] at ih; simp only [ih]
    · rw [if_neg e]
      cases hm : memN k D with
      | true => simp only [hget_cons, if_neg e]; exact ih
      | false => exact ih
theorem hget_restO (D : List Nat) (b : Nat) : ∀ (O : List (Nat × VObj)), hget (restO D O) b = match memN b D with
    | true => none
    | false => hget O b
  | [] => by simp only [restO, hget]; split <;> rfl
  | (k, x) :: r => by
    have ih := hget_restO D b r
    unfold restO
    rw [hget_cons k b x r]
    by_cases e : k = b
    · subst e
      cases hm : memN k D with
      | true => rw [hm] at ih; simp only [ih]
      | false => simp only [hget_cons, if_true]
    · rw [if_neg e]
      cases hm : memN k D with
      | true => exact ih
      | false => simp only [hget_cons, if_neg e]; exact ih
/-- The names behind a call: those of old, and the new ones in their order. -/
def backR (R : List (Nat × Nat)) (n1 nx : Nat) : Nat → List (Nat × Nat)
  | 0 => R.map fun p => (p.2, p.1)
  | k + 1 => (n1 + k, nx + k) :: backR R n1 nx k
theorem backR_mem {R : List (Nat × Nat)} {n1 nx : Nat} : ∀ {k : Nat} {p : Nat × Nat}, p ∈ backR R n1 nx k → (∃ q ∈ R, p = (q.2, q.1)) ∨ ∃ i, i < k ∧ p = (n1 + i, nx + i)
  | 0, p, h => by
    obtain ⟨q, h1, h2⟩ := List.mem_map.1 h
    exact .inl ⟨q, h1, h2.symm⟩
  | k + 1, p, h => by
    rcases List.mem_cons.1 h with rfl | h
    · exact .inr ⟨k, Nat.lt_succ_self _, rfl⟩
    · rcases backR_mem h with h | ⟨i, h1, h2⟩
      · exact .inl h
      · exact .inr ⟨i, Nat.lt_succ_of_lt h1, h2⟩
/-- What is handed back, under the caller's names. -/
structure Back (R : List (Nat × Nat)) (n1 nx : Nat) (K1 : Heap) (v u : VV) (O2 : List (Nat × VObj)) : Prop where
  wf : (wfR 0 (nx + (K1.next - n1)) (backR R n1 nx (K1.next - n1)) && nodupB (ksOf (backR R n1 nx (K1.next - n1)) 0 O2) && O2.all (fun p => (srcN (backR R n1 nx (K1.next - n1)) p.1).isSome) && O2.all (fun p => p.2.rw)) = true
  val : RenV (backR R n1 nx (K1.next - n1)) 0 v u
  objs : RenG (backR R n1 nx (K1.next - n1)) 0 K1 O2
section
variable {P : Program} {f : FuncId} {args args' : List VV} {H : Heap} {O1 : List (Nat × VObj)} {n1 : Nat} {Q Q' : VV → Heap → Prop}
theorem srcOf0 (R : List (Nat × Nat)) (b : Nat) : srcOf R 0 b = srcN R b := srcOf_ge (Nat.zero_le _)
theorem VCall.ren (R : List (Nat × Nat)) (hw : (wfR 0 n1 R && nodupB (ksOf R 0 O1) && O1.all fun p => Nat.blt p.1 n1) = true) (hren : RenG R 0 H O1) (hargs : RenL R 0 args args') (h : VCall P f args' ⟨O1, n1⟩ Q)
    (hQ : ∀ v K1, Q v K1 → ∃ u O2, Back R n1 H.next K1 v u O2 ∧ Q' u ⟨O2, H.next + (K1.next - n1)⟩) : VCall P f args H Q' := fun B M Z ρ w ra h1 h2 => by
  simp only [Bool.and_eq_true] at hw
  obtain ⟨⟨k1, k2⟩, k3⟩ := hw
  have hH := hren.toH
  have hl : Links R 0 ρ (fun b => (srcN R b).bind ρ) := ⟨fun b hb => by omega, fun p hp c hc => by
    obtain ⟨g1, g2, g3⟩ := wfR_src k1 p hp
    simp only [g3, Option.bind_some]
    exact hc⟩
  have r1 : Rel B M Z (fun b => (srcN R b).bind ρ) ⟨O1, n1⟩ w := by
    refine ⟨h1.glob, h1.os, h1.tape, h1.output, h1.size, h1.frame, fun b hb => ?_, fun b x hx => ?_, ?_, ?_, h1.zlt⟩
    · have hb : n1 ≤ b := hb
      show (srcN R b).bind ρ = none
      cases hs : srcN R b with
      | none => rfl
      | some a =>
        have := (wfR_src k1 _ (srcN_mem hs)).2.1
        simp only at this
        omega
    · have g5 : (b, x) ∈ O1 := by
        rcases hH.get hx with ⟨_, _, g⟩ | ⟨a, x0, g1, g2, g3, g4, g5⟩
        · exact g
        · exact g5
      have := List.all_eq_true.1 k3 _ g5
      exact blt_iff.1 this
    · intro b b' k N N' x x' hx hx' hb hb'
      obtain ⟨c, hc, _⟩ := Option.bind_eq_some_iff.1 hb
      obtain ⟨c', hc', _⟩ := Option.bind_eq_some_iff.1 hb'
      obtain ⟨a, x0, g1, g2, g3, g4, _⟩ := hH.getK hx ((srcOf0 R b).trans hc)
      obtain ⟨a', x0', g1', g2', g3', g4', _⟩ := hH.getK hx' ((srcOf0 R b').trans hc')
      rw [srcOf0] at g1 g1'
      simp only [g1, g1', Option.bind_some] at hb hb'
      have := h1.inj a a' k N N' x0 x0' g2 g2' hb hb'
      subst this
      exact hH.inj k2 hx hx' ((srcOf0 R b).trans g1) ((srcOf0 R b').trans g1')
    · intro b x hx
      rcases hH.get hx with ⟨g1, g2, _⟩ | ⟨a, x0, g1, g2, g3, g4, _⟩
      · rw [srcOf0] at g1
        exact .inl ⟨g2, by simp only [g1, Option.bind_none]⟩
      rw [srcOf0] at g1
      rcases h1.obj a x0 g2 with ⟨q1, q2⟩ | ⟨k, N, o, q1, q2, q3, q4, q5⟩
      · exact .inl ⟨g3.ghost q1, by simp only [g1, Option.bind_some]; exact q2⟩
      exact .inr ⟨k, N, o, by simp only [g1, Option.bind_some]; exact q1, q2, g3.orel hl q3, q4, fun h => q5 (by rw [← g3.rw]; exact h)⟩
  refine (h B M Z _ w ra r1 (hargs.pw hl h2)).mono fun e w' ⟨v', v, K1, Z', ρ2, he, q, e1, r2, v2⟩ => ?_
  obtain ⟨u, O2, hb, q'⟩ := hQ v K1 q
  obtain ⟨hwf, hval, hobj⟩ := hb
  simp only [Bool.and_eq_true] at hwf
  obtain ⟨⟨⟨w1, w2⟩, w3⟩, w4⟩ := hwf
  generalize hR2 : backR R n1 H.next (K1.next - n1) = R2 at *
  generalize hnx : H.next + (K1.next - n1) = nx2 at *
  have hO := hobj.toH
  -- what the names stand for
  have key : ∀ p ∈ R2, (if p.2 < H.next then ρ p.2 else (srcN R2 p.2).bind ρ2) = ρ2 p.1 := by
    intro p hp
    obtain ⟨g1, g2, g3⟩ := wfR_src w1 p hp
    by_cases hlt : p.2 < H.next
    · rw [if_pos hlt]
      rw [← hR2] at hp
      rcases backR_mem hp with ⟨q0, hq, rfl⟩ | ⟨i, hi, rfl⟩
      · obtain ⟨f1, f2, f3⟩ := wfR_src k1 q0 hq
        have := e1.rold q0.2 f2
        simp only [f3, Option.bind_some] at this
        exact this.symm
      · simp only at hlt; omega
    · rw [if_neg hlt, g3]; rfl
  have hl2 : Links R2 0 ρ2 (fun b => if b < H.next then ρ b else (srcN R2 b).bind ρ2) := ⟨fun b hb => by omega, fun p hp c hc => by
    show (if p.2 < H.next then ρ p.2 else (srcN R2 p.2).bind ρ2) = some c
    rw [key p hp]; exact hc⟩
  refine ⟨v', u, _, Z', fun b => if b < H.next then ρ b else (srcN R2 b).bind ρ2, he, q', ⟨by show H.next ≤ nx2; omega, fun b hb => if_pos hb, e1.zsub, fun b k hk => ?_, e1.keep, e1.size, e1.znew⟩, ?_, hval _ _ _ _ _ hl2 v2⟩
  · have hlt : b < H.next := by
      rcases Nat.lt_or_ge b H.next with g | g
      · exact g
      · rw [h1.dom b g] at hk; cases hk
    rw [if_pos hlt]; exact hk
  · have src : ∀ b y, hget O2 b = some y → ∃ a x, srcN R2 b = some a ∧ K1.get a = some x ∧ RenO R2 0 x y := fun b y hy => by
      rcases hO.get hy with ⟨g1, g2, g3⟩ | ⟨a, x, g1, g2, g3, g4, g5⟩
      · have := List.all_eq_true.1 w3 _ g3
        simp only at this
        rw [srcOf0] at g1
        rw [g1] at this
        cases this
      · exact ⟨a, x, (srcOf0 R2 b).symm.trans g1, g2, g3⟩
    refine ⟨r2.glob, r2.os, r2.tape, r2.output, r2.size, r2.frame, fun b hb => ?_, fun b x hx => ?_, ?_, ?_, r2.zlt⟩
    · have hb : nx2 ≤ b := hb
      show (if b < H.next then ρ b else (srcN R2 b).bind ρ2) = none
      rw [if_neg (by omega)]
      cases hs : srcN R2 b with
      | none => rfl
      | some a =>
        have := (wfR_src w1 _ (srcN_mem hs)).2.1
        simp only at this
        omega
    · obtain ⟨a, x0, g1, _⟩ := src b x hx
      exact (wfR_src w1 _ (srcN_mem g1)).2.1
    · intro b b' k N N' x x' hx hx' hb hb'
      obtain ⟨a, x0, g1, g2, g3⟩ := src b x hx
      obtain ⟨a', x0', g1', g2', g3'⟩ := src b' x' hx'
      have e2 := key (a, b) (srcN_mem g1)
      have e2' := key (a', b') (srcN_mem g1')
      simp only at e2 e2' hb hb'
      rw [e2] at hb
      rw [e2'] at hb'
      have := r2.inj a a' k N N' x0 x0' g2 g2' hb hb'
      subst this
      exact hO.inj w2 hx hx' ((srcOf0 R2 b).trans g1) ((srcOf0 R2 b').trans g1')
    · intro b x hx
      obtain ⟨a, x0, g1, g2, g3⟩ := src b x hx
      have e2 := key (a, b) (srcN_mem g1)
      simp only at e2
      show (x.ghost = true ∧ (if b < H.next then ρ b else (srcN R2 b).bind ρ2) = none) ∨ _
      rcases r2.obj a x0 g2 with ⟨q1, q2⟩ | ⟨k, N, o, q1, q2, q3, q4, q5⟩
      · exact .inl ⟨g3.ghost q1, e2.trans q2⟩
      exact .inr ⟨k, N, o, e2.trans q1, q2, g3.orel hl2 q3, q4, fun h => q5 (by rw [← g3.rw]; exact h)⟩
/-- D: the blocks that are given. -/
theorem VCall.at (D : List Nat) (R : List (Nat × Nat)) (hw : (wfR 0 n1 R && nodupB (ksOf R 0 O1) && O1.all fun p => Nat.blt p.1 n1) = true) (hren : RenG R 0 ⟨keepO D H.objs, H.next⟩ O1) (hargs : RenL R 0 args args') (h : VCall P f args' ⟨O1, n1⟩ Q)
    (hQ : ∀ v K1, Q v K1 → ∃ u O2, Back R n1 H.next K1 v u O2 ∧ (O2.all fun p => !(memN p.1 ((restO D H.objs).map (·.1)))) = true ∧ Q' u ⟨O2 ++ restO D H.objs, H.next + (K1.next - n1)⟩) : VCall P f args H Q' := by
  have hk := fun b => hget_keepO D b H.objs
  have hr := fun b => hget_restO D b H.objs
  have h3 := VCall.ren (P := P) (f := f) (args := args) (H := ⟨keepO D H.objs, H.next⟩) (Q' := fun u K => ∃ v K1 O2, Q v K1 ∧ Back R n1 H.next K1 v u O2 ∧ (O2.all fun p => !(memN p.1 ((restO D H.objs).map (·.1)))) = true ∧ Q' u ⟨O2 ++ restO D H.objs, H.next + (K1.next - n1)⟩ ∧ K = ⟨O2, H.next + (K1.next - n1)⟩) R hw hren hargs h (fun v K1 q => by
    obtain ⟨u, O2, b1, b2, b3⟩ := hQ v K1 q
    exact ⟨u, O2, b1, v, K1, O2, q, b1, b2, b3, rfl⟩)
  refine (VCall.framed (H := H) ⟨keepO D H.objs, H.next⟩ (restO D H.objs) rfl (fun b x hx => ?_) (fun b x hx => ?_) ⟨fun b x hx => ?_⟩ h3 (fun u K q => ?_)).mono ?_
  · simp only [Heap.get] at hx ⊢
    rw [hk] at hx
    split at hx
    · exact hx
    · cases hx
  · simp only [Heap.get]
    rw [hr] at hx
    split at hx
    · cases hx
    · exact hx
  · simp only [Heap.get]
    rw [hr] at hx
    rw [hk]
    split at hx
    · cases hx
    · rfl
  · obtain ⟨v, K1, O2, q1, b1, b2, b3, rfl⟩ := q
    have hwf := b1.wf
    simp only [Bool.and_eq_true] at hwf
    refine ⟨allRw_of hwf.2, ⟨fun b x hx => ?_⟩⟩
    have hin : b ∈ (restO D H.objs).map (·.1) := by
      have key : ∀ (l : List (Nat × VObj)), hget l b = some x → b ∈ l.map (·.1) := by
        intro l
        induction l with
        | nil => intro h; simp [hget] at h
        | cons p r ih =>
          obtain ⟨k, y⟩ := p
          intro h
          rw [hget_cons] at h
          split at h
          · rename_i e; subst e; simp
          · exact List.mem_cons_of_mem _ (ih h)
      exact key _ hx
    cases ho : hget O2 b with
    | none => exact ho
    | some y =>
      have hbo : ∃ p ∈ O2, p.1 = b := by
        have key : ∀ (l : List (Nat × VObj)), hget l b = some y → ∃ p ∈ l, p.1 = b := by
          intro l
          induction l with
          | nil => intro h; simp [hget] at h
          | cons p r ih =>
            obtain ⟨k, z⟩ := p
            intro h
            rw [hget_cons] at h
            split at h
            · rename_i e; exact ⟨(k, z), by simp, e⟩
            · obtain ⟨q, g1, g2⟩ := ih h
              exact ⟨q, List.mem_cons_of_mem _ g1, g2⟩
        exact key _ ho
      obtain ⟨p, hp, rfl⟩ := hbo
      have := List.all_eq_true.1 b2 p hp
      rw [memN_iff.2 hin] at this
      cases this
  · rintro u K2 ⟨K, ⟨v, K1, O2, q1, b1, b2, b3, rfl⟩, rfl⟩
    exact b3
end
/-- A slice that may be nil, and has something: a slice of its block. -/
theorem GWP'.ungs {P : Program} {r : Option Nat} {c : Code} {Q : Exit → VSt → Prop} {ts : List VV} {H : Heap} {m : List Nat} {b n z : Nat} {vs : List VV} (i : Nat) (hi : ts[i]? = some (.gs b n z)) (hg : H.get b = some (.opt vs)) (hn : n ≠ 0) (h : GWP P r c Q ⟨ts.set i (.sl b 0 n none z), H.set b (.cells true vs), m⟩) : GWP' P r c Q ⟨ts, H, m⟩ := ⟨⟨fun B M Z ρ a w rr QE g0 g1 g2 g3 => by
  obtain ⟨y, hy, hv⟩ := g2.tmps.get hi
  cases hv with
  | gs0 => exact absurd rfl hn
  | gs hk hcap hz h0 =>
    have hs : VRel w Z ρ (.sl b 0 n none z) _ := VRel.sl hk hcap (fun _ e => by cases e) (fun _ => by omega)
    have hp := g2.tmps.set i hs
    rw [List.ext_getElem? (l₁ := a.tmps.toList.set i _) (l₂ := a.tmps.toList) (fun j => by
      by_cases e : i = j
      · subst e
        rw [List.getElem?_set_self (List.getElem?_eq_some_iff.1 hy).1, hy]
      · rw [List.getElem?_set_ne e])] at hp
    exact h.out B M Z ρ a w rr QE g0 (g1.toCells hg hk) ⟨hp, g2.marks⟩ g3⟩⟩
end Go.Proofs.YtmmjgbdihgdekaaDoor

/- What a call hands back, under other names. Over any program. -/
namespace Go.Proofs.YtmmjgbdihgdekaaDoor
open Go Go.RowKit
set_option linter.unusedSimpArgs false
set_option linter.unusedVariables false
variable {P : Program} {f : FuncId} {args : List VV} {H : Heap} {Q Q' : VV → Heap → Prop}
theorem VCall.outR (h : VCall P f args H Q)
    (hQ : ∀ v K, Q v K → ∃ u O nx R, (wfR H.next nx R && nodupB (ksOf R H.next O) && Nat.ble H.next nx && O.all fun p => Nat.blt p.1 nx) = true ∧ RenV R H.next v u ∧ RenG R H.next K O ∧ Q' u ⟨O, nx⟩) : VCall P f args H Q' := fun B M Z ρ w ra h1 h2 => by
  refine (h B M Z ρ w ra h1 h2).mono fun e w' ⟨v', v, K, Z', ρ2, he, q, e1, r2, v2⟩ => ?_
  obtain ⟨u, O, nx, R, hw, hval, hobj, q'⟩ := hQ v K q
  simp only [Bool.and_eq_true] at hw
  obtain ⟨⟨⟨k1, k2⟩, k3⟩, k4⟩ := hw
  have k3 := Nat.le_of_ble_eq_true k3
  have h6 := hobj.toH
  generalize ht : H.next = t at *
  have hl : Links R t ρ2 (fun b => (srcOf R t b).bind ρ2) := ⟨fun b hb c hc => by simp only [srcOf_lt hb, Option.bind_some]; exact hc, fun p hp c hc => by
    obtain ⟨g1, g2, g3⟩ := wfR_src k1 p hp
    simp only [srcOf_ge g1, g3, Option.bind_some]
    exact hc⟩
  refine ⟨v', u, _, Z', fun b => (srcOf R t b).bind ρ2, he, q', ⟨k3, fun b hb => ?_, e1.zsub, fun b k hk => ?_, e1.keep, e1.size, e1.znew⟩, ?_, hval _ _ _ _ _ hl v2⟩
  · simp only [srcOf_lt hb, Option.bind_some]
    exact e1.rold b hb
  · have hlt : b < t := by
      rcases Nat.lt_or_ge b t with g | g
      · exact g
      · rw [h1.dom b (by omega)] at hk; cases hk
    simp only [srcOf_lt hlt, Option.bind_some]
    rw [e1.rold b hlt]
    exact hk
  · refine ⟨r2.glob, r2.os, r2.tape, r2.output, r2.size, r2.frame, fun b hb => ?_, fun b x hx => ?_, ?_, ?_, r2.zlt⟩
    · have hb : nx ≤ b := hb
      show (srcOf R t b).bind ρ2 = none
      rw [srcOf_ge (by omega)]
      cases hs : srcN R b with
      | none => rfl
      | some a =>
        have := (wfR_src k1 _ (srcN_mem hs)).2.1
        simp only at this
        omega
    · have g5 : (b, x) ∈ O := by
        rcases h6.get hx with ⟨_, _, g⟩ | ⟨a, x0, g1, g2, g3, g4, g5⟩
        · exact g
        · exact g5
      have := List.all_eq_true.1 k4 _ g5
      exact blt_iff.1 this
    · intro b b' k N N' x x' hx hx' hb hb'
      obtain ⟨c, hc, _⟩ := Option.bind_eq_some_iff.1 hb
      obtain ⟨c', hc', _⟩ := Option.bind_eq_some_iff.1 hb'
      obtain ⟨a, x0, g1, g2, g3, g4, _⟩ := h6.getK hx hc
      obtain ⟨a', x0', g1', g2', g3', g4', _⟩ := h6.getK hx' hc'
      simp only [g1, g1', Option.bind_some] at hb hb'
      have := r2.inj a a' k N N' x0 x0' g2 g2' hb hb'
      subst this
      exact h6.inj k2 hx hx' g1 g1'
    · intro b x hx
      rcases h6.get hx with ⟨g1, g2, _⟩ | ⟨a, x0, g1, g2, g3, g4, _⟩
      · exact .inl ⟨g2, by simp only [g1, Option.bind_none]⟩
      rcases r2.obj a x0 g2 with ⟨q1, q2⟩ | ⟨k, N, o, q1, q2, q3, q4, q5⟩
      · exact .inl ⟨g3.ghost q1, by simp only [g1, Option.bind_some]; exact q2⟩
      exact .inr ⟨k, N, o, by simp only [g1, Option.bind_some]; exact q1, q2, g3.orel hl q3, q4, fun h => q5 (by rw [← g3.rw]; exact h)⟩
end Go.Proofs.YtmmjgbdihgdekaaDoor

/- Drawn regions with one event of any kind (a call, say) ahead of a tail. -/
namespace Go.Proofs.YtmmjgbdihgdekaaDoor
open Go Go.RowKit
set_option linter.unusedSimpArgs false
set_option linter.unusedVariables false
section
variable (P : Program) (ops : Array Oper) (ts0 : List VV) (al m : Nat) (an : List Nat) (va : VV) (H0 H1 : Heap) (K : List VV → Heap → Prop)
end
end Go.Proofs.YtmmjgbdihgdekaaDoor

/- Drawn regions with one event of any kind (a call, say) ahead of a tail. -/
namespace Go.Proofs.YtmmjgbdihgdekaaDoor
open Go Go.RowKit
set_option linter.unusedSimpArgs false
set_option linter.unusedVariables false
/-- One operation; a slice looked at as an array stops the walk. -/
def wone2 (P : Program) (o : Oper) (ts : List VV) (H : Heap) (K : VV → Heap → Prop) : Prop := match o.op with
  | .sliceToArrayPointer _ _ => GOp P o ts H K
  | _ => wone P o ts H K
theorem wone2_sound {P : Program} {o : Oper} {ts : List VV} {H : Heap} {K : VV → Heap → Prop} (h : wone2 P o ts H K) : VOne P o ts H K := by
  unfold wone2 at h
  split at h
  · exact h.out
  · exact wone_sound h
section
variable (P : Program) (al m : Nat) (H0 H1 : Heap)
def pureX2 (g : Bool) (o : Oper) (ts : List VV) (v : VV) : Prop := match g with
  | false => ∀ Hx, wone2 P o ts Hx fun x K' => Is x v K' Hx
  | true => match Nat.blt al m with
    | true => (wone2 P o ts H0 fun x K' => Is x v K' H0) ∧ (wone2 P o ts H1 fun x K' => Is x v K' H1)
    | false => wone2 P o ts H0 fun x K' => Is x v K' H0
theorem pureX2_sound {g : Bool} {o : Oper} {ts : List VV} {v : VV} (h : pureX2 P al m H0 H1 g o ts v) : PureF P al m H0 H1 g o ts v := by
  unfold pureX2 at h
  unfold PureF
  cases g with
  | false => exact fun Hx => (wone2_sound (h Hx)).mono fun x K' q => ⟨q.val, q.heap⟩
  | true =>
    simp only at h ⊢
    split at h
    · exact ⟨(wone2_sound h.1).mono fun x K' q => ⟨q.val, q.heap⟩, fun _ => (wone2_sound h.2).mono fun x K' q => ⟨q.val, q.heap⟩⟩
    · rename_i hb
      refine ⟨(wone2_sound h).mono fun x K' q => ⟨q.val, q.heap⟩, fun hlt => ?_⟩
      have : Nat.blt al m = true := blt_iff.2 hlt
      rw [this] at hb; cases hb
end
section
variable (P : Program) (ops : Array Oper) (ts0 : List VV) (al m : Nat) (an : List Nat) (va : VV) (H0 H1 : Heap) (K : List VV → Heap → Prop)
def wdrawE (i : Nat) (l : List Oper) (vs : List VV) : Prop :=
  List.rec (motive := fun _ => Nat → List VV → Prop) (fun i vs => wtail P ops ts0 K i [] vs H1) (fun o r ih i vs => match Nat.beq i m with
    | true => wtail P ops ts0 K i (o :: r) vs H1
    | false => match Nat.beq i al with
      | true => match o.guard with
        | none => envE i o ops.toList vs ts0 (readsOf ops o) fun L => And (wone2 P o (frameT L ts0.length 0) H0 fun x K' => Is x va K' H1) (snocE vs va fun vs' => ih (i + 1) vs')
        | some _ => False
      | false => match o.guard with
        | none => envE i o ops.toList vs ts0 (readsOf ops o) fun L => Val (fun v => pureX2 P al m H0 H1 (flagB ops.size m an i) o (frameT L ts0.length 0) v) (fun v => forceV v fun v' => snocE vs v' fun vs' => ih (i + 1) vs')
        | some (j, want) => match waitsFor o.after.toList j with
          | true => match vs[j]? with
            | some (.sc (.bool b)) => ifB b
              (setE vs j (.sc (.bool true)) fun vs1 => match want with
                | true => envE i o ops.toList vs1 ts0 (readsOf ops o) fun L => Val (fun v => pureX2 P al m H0 H1 (flagB ops.size m an i) o (frameT L ts0.length 0) v) (fun v => forceV v fun v' => snocE vs1 v' fun vs' => ih (i + 1) vs')
                | false => snocE vs1 (.tp []) fun vs' => ih (i + 1) vs')
              (setE vs j (.sc (.bool false)) fun vs1 => match want with
                | false => envE i o ops.toList vs1 ts0 (readsOf ops o) fun L => Val (fun v => pureX2 P al m H0 H1 (flagB ops.size m an i) o (frameT L ts0.length 0) v) (fun v => forceV v fun v' => snocE vs1 v' fun vs' => ih (i + 1) vs')
                | true => snocE vs1 (.tp []) fun vs' => ih (i + 1) vs')
            | some (.tp _) => snocE vs (.tp []) fun vs' => ih (i + 1) vs'
            | _ => False
          | false => False) l i vs
theorem wdrawE_cons (i : Nat) (o : Oper) (r : List Oper) (vs : List VV) : wdrawE P ops ts0 al m an va H0 H1 K i (o :: r) vs = (match Nat.beq i m with
    | true => wtail P ops ts0 K i (o :: r) vs H1
    | false => match Nat.beq i al with
      | true => match o.guard with
        | none => envE i o ops.toList vs ts0 (readsOf ops o) fun L => And (wone2 P o (frameT L ts0.length 0) H0 fun x K' => Is x va K' H1) (snocE vs va fun vs' => wdrawE P ops ts0 al m an va H0 H1 K (i + 1) r vs')
        | some _ => False
      | false => match o.guard with
        | none => envE i o ops.toList vs ts0 (readsOf ops o) fun L => Val (fun v => pureX2 P al m H0 H1 (flagB ops.size m an i) o (frameT L ts0.length 0) v) (fun v => forceV v fun v' => snocE vs v' fun vs' => wdrawE P ops ts0 al m an va H0 H1 K (i + 1) r vs')
        | some (j, want) => match waitsFor o.after.toList j with
          | true => match vs[j]? with
            | some (.sc (.bool b)) => ifB b
              (setE vs j (.sc (.bool true)) fun vs1 => match want with
                | true => envE i o ops.toList vs1 ts0 (readsOf ops o) fun L => Val (fun v => pureX2 P al m H0 H1 (flagB ops.size m an i) o (frameT L ts0.length 0) v) (fun v => forceV v fun v' => snocE vs1 v' fun vs' => wdrawE P ops ts0 al m an va H0 H1 K (i + 1) r vs')
                | false => snocE vs1 (.tp []) fun vs' => wdrawE P ops ts0 al m an va H0 H1 K (i + 1) r vs')
              (setE vs j (.sc (.bool false)) fun vs1 => match want with
                | false => envE i o ops.toList vs1 ts0 (readsOf ops o) fun L => Val (fun v => pureX2 P al m H0 H1 (flagB ops.size m an i) o (frameT L ts0.length 0) v) (fun v => forceV v fun v' => snocE vs1 v' fun vs' => wdrawE P ops ts0 al m an va H0 H1 K (i + 1) r vs')
                | true => snocE vs1 (.tp []) fun vs' => wdrawE P ops ts0 al m an va H0 H1 K (i + 1) r vs')
            | some (.tp _) => snocE vs (.tp []) fun vs' => wdrawE P ops ts0 al m an va H0 H1 K (i + 1) r vs'
            | _ => False
          | false => False) := rfl
def EFact (V : List VV) (G : Nat → Heap) (j : Nat) (o : Oper) : Prop := ∃ v, V[j]? = some v ∧ match decide (m ≤ j) with
  | true => VOne P o (tFor j o ops.toList 0 V ts0) (G j) (fun x K' => x = v ∧ K' = G (j + 1))
  | false => (j = al ∧ v = va ∧ o.guard = none ∧ VOne P o (tFor j o ops.toList 0 V ts0) H0 (fun x K' => x = va ∧ K' = H1)) ∨ (j ≠ al ∧ ((vwanted ops o (tFor j o ops.toList 0 V ts0) = some false ∧ v = .tp []) ∨ (vwanted ops o (tFor j o ops.toList 0 V ts0) = some true ∧ PureF P al m H0 H1 (flagB ops.size m an j) o (tFor j o ops.toList 0 V ts0) v)))
theorem wdrawE_sound (hback : ∀ (i : Nat) (o : Oper), ops.toList[i]? = some o → ∀ e ∈ o.after.toList, bindsA e = true → e.on < i) (hnd : (dstsOf ops.toList).Nodup) (hbd : ∀ (i : Nat) (o : Oper), ops.toList[i]? = some o → ∀ d, o.dst = some d → d < ts0.length) (hgd : ∀ (i : Nat) (o : Oper) (j : Nat) (w : Bool), ops.toList[i]? = some o → o.guard = some (j, w) → ((ops[j]?).bind (fun x : Oper => x.dst)).isSome = true) (hm : m ≤ ops.size) : ∀ (r : List Oper) (i : Nat) (vs : List VV), ops.toList.drop i = r → vs.length = i → i ≤ m → wdrawE P ops ts0 al m an va H0 H1 K i r vs →
    ∃ (V : List VV) (G : Nat → Heap), (∃ a, V = vs ++ a) ∧ V.length = ops.size ∧ G m = H1 ∧ K V (G ops.size) ∧ ∀ j o, i ≤ j → ops.toList[j]? = some o → EFact P ops ts0 al m an va H0 H1 V G j o := by
  have tail : ∀ (r : List Oper) (vs : List VV), ops.toList.drop m = r → vs.length = m → wtail P ops ts0 K m r vs H1 → ∃ (V : List VV) (G : Nat → Heap), (∃ a, V = vs ++ a) ∧ V.length = ops.size ∧ G m = H1 ∧ K V (G ops.size) ∧ ∀ j o, m ≤ j → ops.toList[j]? = some o → EFact P ops ts0 al m an va H0 H1 V G j o := by
    intro r vs hd hv h
    obtain ⟨V, G, ha, hl, hG, hk, hq⟩ := wtail_sound P ops ts0 K hback hnd r m vs H1 hd hv hm h
    refine ⟨V, G, ha, hl, hG, hk, fun j o hj ho => ?_⟩
    obtain ⟨v, g1, g2⟩ := hq j o hj ho
    refine ⟨v, g1, ?_⟩
    rw [decide_eq_true hj]
    exact g2
  intro r
  induction r with
  | nil =>
    intro i vs hd hv hi h
    have hle : ops.size ≤ i := by have := congrArg List.length hd; simp at this; omega
    have : i = m := by omega
    subst this
    exact tail [] vs hd hv h
  | cons o r ih =>
    intro i vs hd hv hi h
    have ho : ops.toList[i]? = some o := by
      have := congrArg (fun l => l[0]?) hd
      simpa using this
    have hd' : ops.toList.drop (i + 1) = r := by rw [← List.drop_drop, hd]; rfl
    rw [wdrawE_cons] at h
    rcases beq_cases i m with ⟨hb, e⟩ | ⟨hb, e⟩
    · rw [hb] at h
      subst e
      exact tail _ vs hd hv h
    rw [hb] at h
    simp only at h
    have hilt : i < m := by omega
    have hT : ∀ {V a : List VV}, V = vs ++ a → tFor i o ops.toList 0 vs ts0 = tFor i o ops.toList 0 V ts0 := fun e => tfor_more ops ts0 hback ho hv e
    have step : ∀ (v : VV), wdrawE P ops ts0 al m an va H0 H1 K (i + 1) r (vs ++ [v]) → (∀ V, tFor i o ops.toList 0 vs ts0 = tFor i o ops.toList 0 V ts0 → (i = al ∧ v = va ∧ o.guard = none ∧ VOne P o (tFor i o ops.toList 0 V ts0) H0 (fun x K' => x = va ∧ K' = H1)) ∨ (i ≠ al ∧ ((vwanted ops o (tFor i o ops.toList 0 V ts0) = some false ∧ v = .tp []) ∨ (vwanted ops o (tFor i o ops.toList 0 V ts0) = some true ∧ PureF P al m H0 H1 (flagB ops.size m an i) o (tFor i o ops.toList 0 V ts0) v)))) →
        ∃ (V : List VV) (G : Nat → Heap), (∃ a, V = vs ++ a) ∧ V.length = ops.size ∧ G m = H1 ∧ K V (G ops.size) ∧ ∀ j o, i ≤ j → ops.toList[j]? = some o → EFact P ops ts0 al m an va H0 H1 V G j o := by
      intro v hw hf
      obtain ⟨V, G, ⟨a, ha⟩, hl, hG, hk, hq⟩ := ih (i + 1) (vs ++ [v]) hd' (by simp [hv]) hilt hw
      refine ⟨V, G, ⟨v :: a, by rw [ha]; simp⟩, hl, hG, hk, fun j x hj hx => ?_⟩
      by_cases e : j = i
      · subst e
        rw [ho] at hx; injection hx with hx; subst hx
        refine ⟨v, by rw [ha, List.append_assoc, List.getElem?_append_right (by omega)]; simp [hv], ?_⟩
        rw [decide_eq_false (by omega)]
        exact hf V (hT (a := v :: a) (by rw [ha]; simp))
      · exact hq j x (by omega) hx
    rcases beq_cases i al with ⟨hb2, e2⟩ | ⟨hb2, e2⟩
    · rw [hb2] at h
      simp only at h
      split at h
      case h_2 => exact h.elim
      rename_i hgn
      rw [envE_eq] at h
      obtain ⟨h1, h2⟩ := h
      rw [snocE_eq] at h2
      refine step va h2 fun V e => .inl ⟨e2, rfl, hgn, ?_⟩
      rw [← e]
      exact VOne.less (env_less ops ts0 hnd i o vs _) ((wone2_sound h1).mono fun x K' q => ⟨q.val, q.heap⟩)
    rw [hb2] at h
    simp only at h
    have go : ∀ (hw : vwanted ops o (tFor i o ops.toList 0 vs ts0) = some true), (envE i o ops.toList vs ts0 (readsOf ops o) fun L => Val (fun v => pureX2 P al m H0 H1 (flagB ops.size m an i) o (frameT L ts0.length 0) v) (fun v => forceV v fun v' => snocE vs v' fun vs' => wdrawE P ops ts0 al m an va H0 H1 K (i + 1) r vs')) →
        ∃ (V : List VV) (G : Nat → Heap), (∃ a, V = vs ++ a) ∧ V.length = ops.size ∧ G m = H1 ∧ K V (G ops.size) ∧ ∀ j o, i ≤ j → ops.toList[j]? = some o → EFact P ops ts0 al m an va H0 H1 V G j o := by
      intro hw hg
      rw [envE_eq] at hg
      obtain ⟨v, h1, h2⟩ := hg.out
      rw [forceV_eq, snocE_eq] at h2
      refine step v h2 fun V e => .inr ⟨e2, .inr ⟨e ▸ hw, ?_⟩⟩
      rw [← e]
      exact PureF.less P al m H0 H1 (env_less ops ts0 hnd i o vs _) (pureX2_sound P al m H0 H1 h1)
    have skip : ∀ (hw : vwanted ops o (tFor i o ops.toList 0 vs ts0) = some false), (snocE vs (.tp []) fun vs' => wdrawE P ops ts0 al m an va H0 H1 K (i + 1) r vs') →
        ∃ (V : List VV) (G : Nat → Heap), (∃ a, V = vs ++ a) ∧ V.length = ops.size ∧ G m = H1 ∧ K V (G ops.size) ∧ ∀ j o, i ≤ j → ops.toList[j]? = some o → EFact P ops ts0 al m an va H0 H1 V G j o := by
      intro hw hg
      rw [snocE_eq] at hg
      exact step _ hg fun V e => .inr ⟨e2, .inl ⟨e ▸ hw, rfl⟩⟩
    split at h
    · rename_i hg
      exact go (by simp [vwanted, hg]) h
    · rename_i j want hg
      split at h
      case h_2 => exact h.elim
      rename_i hwt
      have hgd' := hgd i o j want ho hg
      have hval : ∀ u, vs[j]? = some u → ∃ d, (ops[j]?).bind (·.dst) = some d ∧ (tFor i o ops.toList 0 vs ts0)[d]? = some u := fun u hu => by
        cases hd2 : (ops[j]?).bind (·.dst) with
        | none => rw [hd2] at hgd'; cases hgd'
        | some d =>
          refine ⟨d, rfl, ?_⟩
          cases hx : ops[j]? with
          | none => rw [hx] at hd2; cases hd2
          | some x =>
            rw [hx] at hd2
            have hx' : ops.toList[j]? = some x := by simpa using hx
            have hxd : x.dst = some d := hd2
            have := (tFor_get i o ops.toList 0 vs ts0 hnd).2.2 j d x hx' hxd (hbd j x hx' d hxd)
            rw [this, Nat.zero_add, hwt, hu]
            rfl
      split at h
      · rename_i b hb3
        obtain ⟨d, e1, e2⟩ := hval _ hb3
        simp only [setE_eq] at h
        cases b with
        | true =>
          simp only [ifB] at h
          rw [set_same hb3] at h
          cases want with
          | true => exact go (by simp [vwanted, hg, e1, e2]) h
          | false => exact skip (by simp [vwanted, hg, e1, e2]) h
        | false =>
          simp only [ifB] at h
          rw [set_same hb3] at h
          cases want with
          | false => exact go (by simp [vwanted, hg, e1, e2]) h
          | true => exact skip (by simp [vwanted, hg, e1, e2]) h
      · rename_i hb3
        obtain ⟨d, e1, e2⟩ := hval _ hb3
        exact skip (by simp [vwanted, hg, e1, e2]) h
      · exact h.elim
end
theorem GWP.drawE {P : Program} {r : Option Nat} {id : Nat} {ops : Array Oper} {Q : Exit → VSt → Prop} {s : VSt} (hm : P.follows .mixedOrders = true) (al m n : Nat) (va : VV) (H1 : Heap) (hb : (backN 0 ops.toList && nodupN (dstsOf ops.toList) && fitN n ops && tailB ops.toList al m && Nat.blt al m) = true) (hlen : s.tmps.length = n)
    (h : match s with | ⟨ts0, H, md⟩ => forceNL (ancIn ops.toList m [m]) fun an => wdrawE P ops ts0 al m an va H H1 (fun V H' => tAllE ops.toList V ts0 fun ts => Q .normal ⟨ts, H', md⟩) 0 ops.toList []) : GWP P r (.region id ops true) Q s := ⟨by
  obtain ⟨ts0, H, md⟩ := s
  simp only [Bool.and_eq_true] at hb
  obtain ⟨⟨⟨⟨hb1, hb2⟩, hb3⟩, hb4⟩, hb5⟩ := hb
  have hback : ∀ i o, ops.toList[i]? = some o → ∀ e ∈ o.after.toList, bindsA e = true → e.on < i := fun i o ho e he hbe => by
    have := backN_iff hb1 i o ho e he hbe
    omega
  have hlen : ts0.length = n := hlen
  have hfit : ∀ (i : Nat) (o : Oper), ops.toList[i]? = some o → (∀ d, o.dst = some d → d < ts0.length) ∧ ∀ (j : Nat) (w : Bool), o.guard = some (j, w) → ((ops[j]?).bind (fun x : Oper => x.dst)).isSome = true := fun i o ho => by
    have := List.all_eq_true.1 hb3 o (List.mem_of_getElem? ho)
    simp only [Bool.and_eq_true] at this
    refine ⟨fun d hd => ?_, fun j w hg => ?_⟩
    · have h1 := this.1
      rw [hd] at h1
      rw [hlen]
      exact Nat.le_of_ble_eq_true h1
    · have h1 := this.2
      rw [hg] at h1
      exact h1
  have hta := tail_anc hb4
  have hmle : m ≤ ops.size := by
    have := hb4
    simp only [tailB, Bool.or_eq_true, Bool.and_eq_true] at this
    rcases this with this | this
    · have := Nat.eq_of_beq_eq_true this
      simp at this
      omega
    · have := Nat.le_of_ble_eq_true this.1.1.1
      simpa using this
  have hnog : ∀ i o, m ≤ i → ops.toList[i]? = some o → o.guard = none := fun i o hi ho => by
    have := hb4
    simp only [tailB, Bool.or_eq_true, Bool.and_eq_true] at this
    rcases this with this | this
    · have h1 := Nat.eq_of_beq_eq_true this
      have h2 := (List.getElem?_eq_some_iff.1 ho).1
      omega
    have h1 := List.all_eq_true.1 this.1.2 o (List.mem_of_getElem? (i := i - m) (by rw [List.getElem?_drop, show m + (i - m) = i by omega]; exact ho))
    simpa using h1
  have h : forceNL (ancIn ops.toList m [m]) (fun an => wdrawE P ops ts0 al m an va H H1 (fun V H' => tAllE ops.toList V ts0 fun ts => Q .normal ⟨ts, H', md⟩) 0 ops.toList []) := h
  rw [forceNL_eq] at h
  obtain ⟨V, G, _, hl, hG, hk, hq⟩ := wdrawE_sound P ops ts0 al m (ancIn ops.toList m [m]) va H H1 _ hback (nodup_of hb2) (fun i o ho => (hfit i o ho).1) (fun i o j w ho => (hfit i o ho).2 j w) hmle ops.toList 0 [] rfl rfl (Nat.zero_le _) h
  rw [tAllE_eq] at hk
  have hblt : Nat.blt al m = decide (al < m) := by
    by_cases h : al < m
    · rw [decide_eq_true h]; exact blt_iff.2 h
    · rw [decide_eq_false h]
      cases hb : Nat.blt al m
      · rfl
      · exact absurd (blt_iff.1 hb) h
  have halw : al < m ∨ (ops.size ≤ al ∧ H1 = H) := .inl (blt_iff.1 hb5)
  have halo : al < m → ∃ o, ops.toList[al]? = some o ∧ o.guard = none ∧ VOne P o (tFor al o ops.toList 0 V ts0) H (fun x K' => x = va ∧ K' = H1) ∧ V[al]? = some va := fun hlt => by
    have ho : ops.toList[al]? = some (ops.toList[al]'(by simp; omega)) := List.getElem?_eq_getElem _
    obtain ⟨v, h1, h2⟩ := hq al _ (Nat.zero_le _) ho
    rw [decide_eq_false (by omega)] at h2
    rcases h2 with ⟨_, rfl, g2, g3⟩ | ⟨ne, _⟩
    · exact ⟨_, ho, g2, g3, h1⟩
    · exact absurd rfl ne
  -- the heap behind so many events
  have hcnt := fun i hi => cnt_ev al m i hi ops.size
  have hcntA : cnt (fun j => (Nat.beq j al && Nat.blt al m) || Nat.ble m j) ops.size = (if al < m then 1 else 0) + (ops.size - m) := by
    have h1 := hcnt ops.size hmle
    have h2 : cnt (fun j => ((Nat.beq j al && Nat.blt al m) || Nat.ble m j) && Nat.blt j ops.size) ops.size = cnt (fun j => (Nat.beq j al && Nat.blt al m) || Nat.ble m j) ops.size := cnt_congr fun j hj => by
      have : Nat.blt j ops.size = true := blt_iff.2 hj
      rw [this, Bool.and_true]
    rw [← h2, h1]
    by_cases c : al < m
    · rw [if_pos ⟨c, by omega⟩, if_pos c]; omega
    · rw [if_neg (by omega), if_neg c]; omega
  refine VWP.draw (vals := V) (G := fun c => if al < m then (if c = 0 then H else G (m + (c - 1))) else G (m + c)) (ev := fun j => (Nat.beq j al && Nat.blt al m) || Nat.ble m j) hm
    ⟨by simpa using hl.symm, nodup_of hb2, hback, fun i j hi h1 h2 hji => ?_, fun i o ho hw => ?_, fun i o ho => ?_, fun i o v ho hw hev hv => ?_, fun i o v p ho hw hev hv hA hD => ?_⟩ ?_ ?_
  · -- order
    have him : m ≤ i := by
      rcases Bool.or_eq_true_iff.1 h1 with q | q
      · rcases Bool.or_eq_true_iff.1 h2 with q2 | q2
        · simp only [Bool.and_eq_true] at q q2
          have := Nat.eq_of_beq_eq_true q.1
          have := Nat.eq_of_beq_eq_true q2.1
          omega
        · simp only [Bool.and_eq_true] at q
          have := Nat.eq_of_beq_eq_true q.1
          have := Nat.le_of_ble_eq_true q2
          have := blt_iff.1 q.2
          omega
      · exact Nat.le_of_ble_eq_true q
    have := hta (i - m) j (by simp; omega) (by omega) fun hjm => by
      rcases Bool.or_eq_true_iff.1 h2 with q2 | q2
      · simp only [Bool.and_eq_true] at q2
        have e := Nat.eq_of_beq_eq_true q2.1
        have h5 := hb4
        simp only [tailB, Bool.or_eq_true, Bool.and_eq_true] at h5
        rcases h5 with h5 | h5
        · have := Nat.eq_of_beq_eq_true h5; simp at this; omega
        · rcases h5.2 with h6 | h6
          · rw [e]; exact memN_iff.1 h6
          · have := Nat.eq_of_beq_eq_true h6; simp at this; omega
      · have := Nat.le_of_ble_eq_true q2; omega
    rwa [show m + (i - m) = i by omega] at this
  · -- skip
    obtain ⟨v, h1, h2⟩ := hq i o (Nat.zero_le _) ho
    have hil : i < ops.size := by have := (List.getElem?_eq_some_iff.1 ho).1; simpa using this
    by_cases hmi : m ≤ i
    · have := hnog i o hmi ho
      simp [vwanted, this] at hw
    · rw [decide_eq_false hmi] at h2
      rcases h2 with ⟨e, _⟩ | ⟨ne, ⟨_, rfl⟩ | ⟨h2, _⟩⟩
      · subst e
        obtain ⟨o2, g1, g2, _⟩ := halo (by omega)
        rw [ho] at g1; injection g1 with g1; subst g1
        simp [vwanted, g2] at hw
      · refine ⟨h1, ?_⟩
        rw [Bool.or_eq_false_iff]
        constructor
        · rw [Bool.and_eq_false_iff]
          by_cases e : i = al
          · subst e
            right
            cases hbb : Nat.blt i m
            · rfl
            · obtain ⟨o2, g1, g2, _⟩ := halo (blt_iff.1 hbb)
              rw [ho] at g1; injection g1 with g1; subst g1
              simp [vwanted, g2] at hw
          · left
            rcases beq_cases i al with ⟨_, e2⟩ | ⟨h3, _⟩
            · exact absurd e2 e
            · exact h3
        · cases hbb : Nat.ble m i
          · rfl
          · exact absurd (Nat.le_of_ble_eq_true hbb) hmi
      · rw [hw] at h2; simp at h2
  · -- wanted is known
    obtain ⟨v, h1, h2⟩ := hq i o (Nat.zero_le _) ho
    by_cases hmi : m ≤ i
    · simp [vwanted, hnog i o hmi ho]
    · rw [decide_eq_false hmi] at h2
      rcases h2 with ⟨e, _⟩ | ⟨ne, ⟨h2, _⟩ | ⟨h2, _⟩⟩
      · subst e
        obtain ⟨o2, g1, g2, _⟩ := halo (by omega)
        rw [ho] at g1; injection g1 with g1; subst g1
        simp [vwanted, g2]
      · rw [h2]; simp
      · rw [h2]; simp
  · -- events
    obtain ⟨u, h1, h2⟩ := hq i o (Nat.zero_le _) ho
    rw [hv] at h1; injection h1 with h1; subst h1
    have hil : i < ops.size := by have := (List.getElem?_eq_some_iff.1 ho).1; simpa using this
    by_cases hmi : m ≤ i
    · rw [decide_eq_true hmi] at h2
      simp only at h2
      have hc := hcnt i hmi
      have hmin : min ops.size i = i := by omega
      rw [hmin] at hc
      rw [hc]
      by_cases c : al < m
      · simp only [if_pos c, if_pos (And.intro c (show al < ops.size by omega))]
        rw [if_neg (by omega), if_neg (by omega), show m + (1 + (i - m) - 1) = i by omega, show m + (1 + (i - m) + 1 - 1) = i + 1 by omega]
        exact h2
      · simp only [if_neg c, if_neg (show ¬ (al < m ∧ al < ops.size) by omega)]
        rw [show m + (0 + (i - m)) = i by omega, show m + (0 + (i - m) + 1) = i + 1 by omega]
        exact h2
    · have hia : i = al ∧ al < m := by
        rcases Bool.or_eq_true_iff.1 hev with q | q
        · simp only [Bool.and_eq_true] at q
          exact ⟨Nat.eq_of_beq_eq_true q.1, blt_iff.1 q.2⟩
        · exact absurd (Nat.le_of_ble_eq_true q) hmi
      obtain ⟨rfl, hlt⟩ := hia
      obtain ⟨o2, g1, g2, g3⟩ := halo hlt
      rw [ho] at g1; injection g1 with g1; subst g1
      rw [decide_eq_false hmi] at h2
      have hc0 : cnt (fun j => ((Nat.beq j i && Nat.blt i m) || Nat.ble m j) && Nat.blt j i) ops.size = 0 := by
        rw [cnt_congr (g := fun _ => false) fun j hj => ?_]
        · exact cnt_false _
        · cases hbb : Nat.blt j i
          · simp
          · have hji := blt_iff.1 hbb
            have e1 : Nat.beq j i = false := by
              rcases beq_cases j i with ⟨_, e⟩ | ⟨h3, _⟩
              · omega
              · exact h3
            have e2 : Nat.ble m j = false := by
              cases hq2 : Nat.ble m j
              · rfl
              · have := Nat.le_of_ble_eq_true hq2; omega
            simp [e1, e2]
      rw [hc0]
      simp only [if_pos hlt, if_true]
      rw [if_neg (by omega), show m + (0 + 1 - 1) = m by omega, hG]
      have hvv : v = va := by
        rcases h2 with ⟨_, e, _⟩ | ⟨ne, _⟩
        · exact e
        · exact absurd rfl ne
      subst hvv
      exact g3.1
  · -- the others
    obtain ⟨u, h1, h2⟩ := hq i o (Nat.zero_le _) ho
    rw [hv] at h1; injection h1 with h1; subst h1
    rcases Bool.or_eq_false_iff.1 hev with ⟨k1, k2⟩
    have hmi : ¬ m ≤ i := fun hh => by rw [Nat.ble_eq_true_of_le hh] at k2; cases k2
    rw [decide_eq_false hmi] at h2
    rcases h2 with ⟨e, _⟩ | ⟨ne, ⟨h2, _⟩ | ⟨_, q⟩⟩
    · subst e
      have hlt : i < m := by omega
      rw [hblt, decide_eq_true hlt, Bool.and_true] at k1
      simp [Nat.beq_refl] at k1
    · rw [hw] at h2; simp at h2
    · unfold PureF at q
      cases hfl : flagB ops.size m (ancIn ops.toList m [m]) i with
      | false => rw [hfl] at q; exact q _
      | true =>
        rw [hfl] at q
        obtain ⟨q1, q2⟩ := q
        have hd := hD (fun j => Nat.ble m j && Nat.blt j ops.size) fun j hj => by
          simp only [Bool.and_eq_true] at hj
          have hmj := Nat.le_of_ble_eq_true hj.1
          have hjs := blt_iff.1 hj.2
          refine ⟨by simp [hj.1], ?_⟩
          have := hta (j - m) i (by simp; omega) (by omega) fun _ => by
            unfold flagB at hfl
            split at hfl
            · rename_i hbq
              have := Nat.eq_of_beq_eq_true hbq
              omega
            · exact memN_iff.1 hfl
          rwa [show m + (j - m) = j by omega] at this
        have hcd : cnt (fun j => Nat.ble m j && Nat.blt j ops.size) ops.size = ops.size - m := by
          have h3 := cnt_ev ops.size m ops.size hmle ops.size
          rw [if_neg (by omega)] at h3
          rw [show ops.size - m = 0 + (min ops.size ops.size - m) by omega, ← h3]
          refine cnt_congr fun j hj => ?_
          have : Nat.blt ops.size m = false := by
            cases hbb : Nat.blt ops.size m
            · rfl
            · have := blt_iff.1 hbb; omega
          simp [this]
        rw [hcd, hcntA] at hd
        by_cases c : al < m
        · simp only [if_pos c] at hd ⊢
          by_cases hp : p = 0
          · simp only [if_pos hp]; exact q1
          · have : p = 1 := by omega
            subst this
            simp only [if_neg (show ¬ (1 : Nat) = 0 by omega), Nat.sub_self, Nat.add_zero, hG]
            exact q2 c
        · simp only [if_neg c] at hd ⊢
          have : p = 0 := by omega
          subst this
          rcases halw with q | ⟨_, e⟩
          · exact absurd q c
          · rw [Nat.add_zero, hG, e]; exact q1
  · -- the first heap
    by_cases c : al < m
    · simp only [if_pos c, if_true]
    · simp only [if_neg c, Nat.add_zero, hG]
      rcases halw with q | ⟨_, e⟩
      · exact absurd q c
      · exact e
  · -- the last
    rw [hcntA]
    by_cases c : al < m
    · simp only [if_pos c]
      by_cases hz : 1 + (ops.size - m) = 0
      · omega
      · rw [if_neg hz, show m + (1 + (ops.size - m) - 1) = ops.size by omega]; exact hk
    · simp only [if_neg c]
      rw [show m + (0 + (ops.size - m)) = ops.size by omega]; exact hk⟩
end Go.Proofs.YtmmjgbdihgdekaaDoor

/- Regions that draw their order, whose last operations follow one another and may be guarded (a yield behind an 'or'). Over any program. -/
namespace Go.Proofs.YtmmjgbdihgdekaaDoor
open Go Go.RowKit
set_option linter.unusedSimpArgs false
set_option linter.unusedVariables false
/-- The operations from m on follow one another; the alloc is ahead of them. -/
def tailG (ops : List Oper) (al m : Nat) : Bool := Nat.beq m ops.length || (Nat.ble m ops.length && chainB ops m (ops.length - m) && (memN al (ancIn ops m [m]) || Nat.beq al ops.length))
theorem tailG_anc {ops : List Oper} {al m : Nat} (h : tailG ops al m = true) : ∀ (c j : Nat), m + c < ops.length → j < m + c → (j < m → j ∈ ancIn ops m [m]) → Anc ops (m + c) j := by
  simp only [tailG, Bool.or_eq_true, Bool.and_eq_true] at h
  rcases h with h | ⟨⟨h1, h3⟩, h5⟩
  · have := Nat.eq_of_beq_eq_true h
    intro c j h1 h2
    omega
  intro c
  induction c with
  | zero =>
    intro j hlt hj hin
    rcases ancIn_sound m [m] (fun s hs => .inl (by simpa using hs)) j (hin (by omega)) with e | a
    · omega
    · exact a
  | succ c ih =>
    intro j hlt hj hin
    have ho : ops[m + c + 1]? = some ops[m + c + 1] := List.getElem?_eq_getElem (by omega)
    obtain ⟨e, he, hon, hbe⟩ := waitsFor_iff (chainB_at h3 c (by omega) _ ho)
    have a1 : Anc ops (m + c + 1) (m + c) := by
      have := Anc.edge ho he hbe
      rw [hon] at this
      exact this
    by_cases e : j = m + c
    · subst e; exact a1
    · exact .trans a1 (ih j (by omega) (by omega) hin)
section
variable (P : Program) (ops : Array Oper) (ts0 : List VV) (al m : Nat) (an : List Nat) (va : VV) (H0 H1 : Heap) (K : List VV → Heap → Prop)
def wtailG (i : Nat) (l : List Oper) (vs : List VV) (H : Heap) : Prop :=
  List.rec (motive := fun _ => Nat → List VV → Heap → Prop) (fun _ vs H => K vs H) (fun o _ ih i vs H => match o.guard with
    | none => envE i o ops.toList vs ts0 (readsOf ops o) fun L => ValH (fun v H' => wone P o (frameT L ts0.length 0) H fun x K' => Is x v K' H') (fun v H' => forceV v fun v' => snocE vs v' fun vs' => ih (i + 1) vs' H')
    | some (j, want) => match waitsFor o.after.toList j with
      | true => match vs[j]? with
        | some (.sc (.bool true)) => match want with
          | true => envE i o ops.toList vs ts0 (readsOf ops o) fun L => ValH (fun v H' => wone P o (frameT L ts0.length 0) H fun x K' => Is x v K' H') (fun v H' => forceV v fun v' => snocE vs v' fun vs' => ih (i + 1) vs' H')
          | false => False
        | some (.sc (.bool false)) => match want with
          | false => envE i o ops.toList vs ts0 (readsOf ops o) fun L => ValH (fun v H' => wone P o (frameT L ts0.length 0) H fun x K' => Is x v K' H') (fun v H' => forceV v fun v' => snocE vs v' fun vs' => ih (i + 1) vs' H')
          | true => False
        | _ => False
      | false => False) l i vs H
theorem wtailG_cons (i : Nat) (o : Oper) (r : List Oper) (vs : List VV) (H : Heap) : wtailG P ops ts0 K i (o :: r) vs H = (match o.guard with
    | none => envE i o ops.toList vs ts0 (readsOf ops o) fun L => ValH (fun v H' => wone P o (frameT L ts0.length 0) H fun x K' => Is x v K' H') (fun v H' => forceV v fun v' => snocE vs v' fun vs' => wtailG P ops ts0 K (i + 1) r vs' H')
    | some (j, want) => match waitsFor o.after.toList j with
      | true => match vs[j]? with
        | some (.sc (.bool true)) => match want with
          | true => envE i o ops.toList vs ts0 (readsOf ops o) fun L => ValH (fun v H' => wone P o (frameT L ts0.length 0) H fun x K' => Is x v K' H') (fun v H' => forceV v fun v' => snocE vs v' fun vs' => wtailG P ops ts0 K (i + 1) r vs' H')
          | false => False
        | some (.sc (.bool false)) => match want with
          | false => envE i o ops.toList vs ts0 (readsOf ops o) fun L => ValH (fun v H' => wone P o (frameT L ts0.length 0) H fun x K' => Is x v K' H') (fun v H' => forceV v fun v' => snocE vs v' fun vs' => wtailG P ops ts0 K (i + 1) r vs' H')
          | true => False
        | _ => False
      | false => False) := rfl
def wdrawG (i : Nat) (l : List Oper) (vs : List VV) : Prop :=
  List.rec (motive := fun _ => Nat → List VV → Prop) (fun i vs => wtailG P ops ts0 K i [] vs H1) (fun o r ih i vs => match Nat.beq i m with
    | true => wtailG P ops ts0 K i (o :: r) vs H1
    | false => match Nat.beq i al with
      | true => snocE vs va fun vs' => ih (i + 1) vs'
      | false => match o.guard with
        | none => envE i o ops.toList vs ts0 (readsOf ops o) fun L => Val (fun v => pureX P al m H0 H1 (flagB ops.size m an i) o (frameT L ts0.length 0) v) (fun v => forceV v fun v' => snocE vs v' fun vs' => ih (i + 1) vs')
        | some (j, want) => match waitsFor o.after.toList j with
          | true => match vs[j]? with
            | some (.sc (.bool b)) => ifB b
              (setE vs j (.sc (.bool true)) fun vs1 => match want with
                | true => envE i o ops.toList vs1 ts0 (readsOf ops o) fun L => Val (fun v => pureX P al m H0 H1 (flagB ops.size m an i) o (frameT L ts0.length 0) v) (fun v => forceV v fun v' => snocE vs1 v' fun vs' => ih (i + 1) vs')
                | false => snocE vs1 (.tp []) fun vs' => ih (i + 1) vs')
              (setE vs j (.sc (.bool false)) fun vs1 => match want with
                | false => envE i o ops.toList vs1 ts0 (readsOf ops o) fun L => Val (fun v => pureX P al m H0 H1 (flagB ops.size m an i) o (frameT L ts0.length 0) v) (fun v => forceV v fun v' => snocE vs1 v' fun vs' => ih (i + 1) vs')
                | true => snocE vs1 (.tp []) fun vs' => ih (i + 1) vs')
            | some (.tp _) => snocE vs (.tp []) fun vs' => ih (i + 1) vs'
            | _ => False
          | false => False) l i vs
theorem wdrawG_cons (i : Nat) (o : Oper) (r : List Oper) (vs : List VV) : wdrawG P ops ts0 al m an va H0 H1 K i (o :: r) vs = (match Nat.beq i m with
    | true => wtailG P ops ts0 K i (o :: r) vs H1
    | false => match Nat.beq i al with
      | true => snocE vs va fun vs' => wdrawG P ops ts0 al m an va H0 H1 K (i + 1) r vs'
      | false => match o.guard with
        | none => envE i o ops.toList vs ts0 (readsOf ops o) fun L => Val (fun v => pureX P al m H0 H1 (flagB ops.size m an i) o (frameT L ts0.length 0) v) (fun v => forceV v fun v' => snocE vs v' fun vs' => wdrawG P ops ts0 al m an va H0 H1 K (i + 1) r vs')
        | some (j, want) => match waitsFor o.after.toList j with
          | true => match vs[j]? with
            | some (.sc (.bool b)) => ifB b
              (setE vs j (.sc (.bool true)) fun vs1 => match want with
                | true => envE i o ops.toList vs1 ts0 (readsOf ops o) fun L => Val (fun v => pureX P al m H0 H1 (flagB ops.size m an i) o (frameT L ts0.length 0) v) (fun v => forceV v fun v' => snocE vs1 v' fun vs' => wdrawG P ops ts0 al m an va H0 H1 K (i + 1) r vs')
                | false => snocE vs1 (.tp []) fun vs' => wdrawG P ops ts0 al m an va H0 H1 K (i + 1) r vs')
              (setE vs j (.sc (.bool false)) fun vs1 => match want with
                | false => envE i o ops.toList vs1 ts0 (readsOf ops o) fun L => Val (fun v => pureX P al m H0 H1 (flagB ops.size m an i) o (frameT L ts0.length 0) v) (fun v => forceV v fun v' => snocE vs1 v' fun vs' => wdrawG P ops ts0 al m an va H0 H1 K (i + 1) r vs')
                | true => snocE vs1 (.tp []) fun vs' => wdrawG P ops ts0 al m an va H0 H1 K (i + 1) r vs')
            | some (.tp _) => snocE vs (.tp []) fun vs' => wdrawG P ops ts0 al m an va H0 H1 K (i + 1) r vs'
            | _ => False
          | false => False) := rfl
def GFact (V : List VV) (G : Nat → Heap) (j : Nat) (o : Oper) : Prop := ∃ v, V[j]? = some v ∧ match decide (m ≤ j) with
  | true => vwanted ops o (tFor j o ops.toList 0 V ts0) = some true ∧ VOne P o (tFor j o ops.toList 0 V ts0) (G j) (fun x K' => x = v ∧ K' = G (j + 1))
  | false => (j = al ∧ v = va) ∨ (j ≠ al ∧ ((vwanted ops o (tFor j o ops.toList 0 V ts0) = some false ∧ v = .tp []) ∨ (vwanted ops o (tFor j o ops.toList 0 V ts0) = some true ∧ PureF P al m H0 H1 (flagB ops.size m an j) o (tFor j o ops.toList 0 V ts0) v)))
theorem wtailG_sound (hback : ∀ (i : Nat) (o : Oper), ops.toList[i]? = some o → ∀ e ∈ o.after.toList, bindsA e = true → e.on < i) (hnd : (dstsOf ops.toList).Nodup) (hbd : ∀ (i : Nat) (o : Oper), ops.toList[i]? = some o → ∀ d, o.dst = some d → d < ts0.length) (hgd : ∀ (i : Nat) (o : Oper) (j : Nat) (w : Bool), ops.toList[i]? = some o → o.guard = some (j, w) → ((ops[j]?).bind (fun x : Oper => x.dst)).isSome = true) : ∀ (r : List Oper) (i : Nat) (vs : List VV) (H : Heap), ops.toList.drop i = r → vs.length = i → i ≤ ops.size → wtailG P ops ts0 K i r vs H →
    ∃ (V : List VV) (G : Nat → Heap), (∃ a, V = vs ++ a) ∧ V.length = ops.size ∧ G i = H ∧ K V (G ops.size) ∧ ∀ j o, i ≤ j → ops.toList[j]? = some o → ∃ v, V[j]? = some v ∧ vwanted ops o (tFor j o ops.toList 0 V ts0) = some true ∧ VOne P o (tFor j o ops.toList 0 V ts0) (G j) (fun x K' => x = v ∧ K' = G (j + 1))
  | [], i, vs, H, hd, hv, hi, h => by
    have hle : ops.size ≤ i := by have := congrArg List.length hd; simp at this; omega
    refine ⟨vs, fun _ => H, ⟨[], by simp⟩, by omega, rfl, h, fun j o hj ho => ?_⟩
    have := (List.getElem?_eq_some_iff.1 ho).1
    simp at this
    omega
  | o :: r, i, vs, H, hd, hv, hi, h => by
    have ho : ops.toList[i]? = some o := by
      have := congrArg (fun l => l[0]?) hd
      simpa using this
    have hd' : ops.toList.drop (i + 1) = r := by rw [← List.drop_drop, hd]; rfl
    have hilt : i < ops.size := by have := (List.getElem?_eq_some_iff.1 ho).1; simpa using this
    rw [wtailG_cons] at h
    have go : ∀ (hw : vwanted ops o (tFor i o ops.toList 0 vs ts0) = some true), (envE i o ops.toList vs ts0 (readsOf ops o) fun L => ValH (fun v H' => wone P o (frameT L ts0.length 0) H fun x K' => Is x v K' H') (fun v H' => forceV v fun v' => snocE vs v' fun vs' => wtailG P ops ts0 K (i + 1) r vs' H')) → ∃ (V : List VV) (G : Nat → Heap), (∃ a, V = vs ++ a) ∧ V.length = ops.size ∧ G i = H ∧ K V (G ops.size) ∧ ∀ j o, i ≤ j → ops.toList[j]? = some o → ∃ v, V[j]? = some v ∧ vwanted ops o (tFor j o ops.toList 0 V ts0) = some true ∧ VOne P o (tFor j o ops.toList 0 V ts0) (G j) (fun x K' => x = v ∧ K' = G (j + 1)) := by
      intro hw h
      rw [envE_eq] at h
      obtain ⟨v, H', h1, h2⟩ := h.out
      rw [forceV_eq, snocE_eq] at h2
      obtain ⟨V, G, ⟨a, ha⟩, hl, hG, hk, hq⟩ := wtailG_sound hback hnd hbd hgd r (i + 1) (vs ++ [v]) H' hd' (by simp [hv]) hilt h2
      have hVi : V[i]? = some v := by rw [ha, List.append_assoc, List.getElem?_append_right (by omega)]; simp [hv]
      have hT : tFor i o ops.toList 0 vs ts0 = tFor i o ops.toList 0 V ts0 := tfor_more ops ts0 hback ho hv (a := v :: a) (by rw [ha]; simp)
      refine ⟨V, fun k => if k = i then H else G k, ⟨v :: a, by rw [ha]; simp⟩, hl, by simp, ?_, fun j x hj hx => ?_⟩
      · show K V (if ops.size = i then H else G ops.size)
        rw [if_neg (by omega)]; exact hk
      · by_cases e : j = i
        · subst e
          rw [ho] at hx; injection hx with hx; subst hx
          refine ⟨v, hVi, hT ▸ hw, ?_⟩
          simp only [if_true, if_neg (show ¬ j + 1 = j by omega)]
          rw [← hT, hG]
          exact VOne.less (env_less ops ts0 hnd j o vs _) ((wone_sound h1).mono fun x K' q => ⟨q.val, q.heap⟩)
        · obtain ⟨u, g1, g2, g3⟩ := hq j x (by omega) hx
          refine ⟨u, g1, g2, ?_⟩
          simp only [if_neg e, if_neg (show ¬ j + 1 = i by omega)]
          exact g3
    split at h
    · rename_i hg
      exact go (by simp [vwanted, hg]) h
    · rename_i j want hg
      split at h
      case h_2 => exact h.elim
      rename_i hwt
      have hgd' := hgd i o j want ho hg
      have hval : ∀ u, vs[j]? = some u → ∃ d, (ops[j]?).bind (·.dst) = some d ∧ (tFor i o ops.toList 0 vs ts0)[d]? = some u := fun u hu => by
        cases hd2 : (ops[j]?).bind (·.dst) with
        | none => rw [hd2] at hgd'; cases hgd'
        | some d =>
          refine ⟨d, rfl, ?_⟩
          cases hx : ops[j]? with
          | none => rw [hx] at hd2; cases hd2
          | some x =>
            rw [hx] at hd2
            have hx' : ops.toList[j]? = some x := by simpa using hx
            have hxd : x.dst = some d := hd2
            have := (tFor_get i o ops.toList 0 vs ts0 hnd).2.2 j d x hx' hxd (hbd j x hx' d hxd)
            rw [this, Nat.zero_add, hwt, hu]
            rfl
      split at h
      · rename_i hb3
        obtain ⟨d, e1, e2⟩ := hval _ hb3
        cases want with
        | true => exact go (by simp [vwanted, hg, e1, e2]) h
        | false => exact h.elim
      · rename_i hb3
        obtain ⟨d, e1, e2⟩ := hval _ hb3
        cases want with
        | false => exact go (by simp [vwanted, hg, e1, e2]) h
        | true => exact h.elim
      · exact h.elim
theorem wdrawG_sound (hback : ∀ (i : Nat) (o : Oper), ops.toList[i]? = some o → ∀ e ∈ o.after.toList, bindsA e = true → e.on < i) (hnd : (dstsOf ops.toList).Nodup) (hbd : ∀ (i : Nat) (o : Oper), ops.toList[i]? = some o → ∀ d, o.dst = some d → d < ts0.length) (hgd : ∀ (i : Nat) (o : Oper) (j : Nat) (w : Bool), ops.toList[i]? = some o → o.guard = some (j, w) → ((ops[j]?).bind (fun x : Oper => x.dst)).isSome = true) (hm : m ≤ ops.size) : ∀ (r : List Oper) (i : Nat) (vs : List VV), ops.toList.drop i = r → vs.length = i → i ≤ m → wdrawG P ops ts0 al m an va H0 H1 K i r vs →
    ∃ (V : List VV) (G : Nat → Heap), (∃ a, V = vs ++ a) ∧ V.length = ops.size ∧ G m = H1 ∧ K V (G ops.size) ∧ ∀ j o, i ≤ j → ops.toList[j]? = some o → GFact P ops ts0 al m an va H0 H1 V G j o := by
  have tail : ∀ (r : List Oper) (vs : List VV), ops.toList.drop m = r → vs.length = m → wtailG P ops ts0 K m r vs H1 → ∃ (V : List VV) (G : Nat → Heap), (∃ a, V = vs ++ a) ∧ V.length = ops.size ∧ G m = H1 ∧ K V (G ops.size) ∧ ∀ j o, m ≤ j → ops.toList[j]? = some o → GFact P ops ts0 al m an va H0 H1 V G j o := by
    intro r vs hd hv h
    obtain ⟨V, G, ha, hl, hG, hk, hq⟩ := wtailG_sound P ops ts0 K hback hnd hbd hgd r m vs H1 hd hv hm h
    refine ⟨V, G, ha, hl, hG, hk, fun j o hj ho => ?_⟩
    obtain ⟨v, g1, g2⟩ := hq j o hj ho
    refine ⟨v, g1, ?_⟩
    rw [decide_eq_true hj]
    exact g2
  intro r
  induction r with
  | nil =>
    intro i vs hd hv hi h
    have hle : ops.size ≤ i := by have := congrArg List.length hd; simp at this; omega
    have : i = m := by omega
    subst this
    exact tail [] vs hd hv h
  | cons o r ih =>
    intro i vs hd hv hi h
    have ho : ops.toList[i]? = some o := by
      have := congrArg (fun l => l[0]?) hd
      simpa using this
    have hd' : ops.toList.drop (i + 1) = r := by rw [← List.drop_drop, hd]; rfl
    rw [wdrawG_cons] at h
    rcases beq_cases i m with ⟨hb, e⟩ | ⟨hb, e⟩
    · rw [hb] at h
      subst e
      exact tail _ vs hd hv h
    rw [hb] at h
    simp only at h
    have hilt : i < m := by omega
    have hT : ∀ {V a : List VV}, V = vs ++ a → tFor i o ops.toList 0 vs ts0 = tFor i o ops.toList 0 V ts0 := fun e => tfor_more ops ts0 hback ho hv e
    have step : ∀ (v : VV), wdrawG P ops ts0 al m an va H0 H1 K (i + 1) r (vs ++ [v]) → (∀ V, tFor i o ops.toList 0 vs ts0 = tFor i o ops.toList 0 V ts0 → (i = al ∧ v = va) ∨ (i ≠ al ∧ ((vwanted ops o (tFor i o ops.toList 0 V ts0) = some false ∧ v = .tp []) ∨ (vwanted ops o (tFor i o ops.toList 0 V ts0) = some true ∧ PureF P al m H0 H1 (flagB ops.size m an i) o (tFor i o ops.toList 0 V ts0) v)))) →
        ∃ (V : List VV) (G : Nat → Heap), (∃ a, V = vs ++ a) ∧ V.length = ops.size ∧ G m = H1 ∧ K V (G ops.size) ∧ ∀ j o, i ≤ j → ops.toList[j]? = some o → GFact P ops ts0 al m an va H0 H1 V G j o := by
      intro v hw hf
      obtain ⟨V, G, ⟨a, ha⟩, hl, hG, hk, hq⟩ := ih (i + 1) (vs ++ [v]) hd' (by simp [hv]) hilt hw
      refine ⟨V, G, ⟨v :: a, by rw [ha]; simp⟩, hl, hG, hk, fun j x hj hx => ?_⟩
      by_cases e : j = i
      · subst e
        rw [ho] at hx; injection hx with hx; subst hx
        refine ⟨v, by rw [ha, List.append_assoc, List.getElem?_append_right (by omega)]; simp [hv], ?_⟩
        rw [decide_eq_false (by omega)]
        exact hf V (hT (a := v :: a) (by rw [ha]; simp))
      · exact hq j x (by omega) hx
    rcases beq_cases i al with ⟨hb2, e2⟩ | ⟨hb2, e2⟩
    · rw [hb2] at h
      simp only [snocE_eq] at h
      exact step va h fun V _ => .inl ⟨e2, rfl⟩
    rw [hb2] at h
    simp only at h
    have go : ∀ (hw : vwanted ops o (tFor i o ops.toList 0 vs ts0) = some true), (envE i o ops.toList vs ts0 (readsOf ops o) fun L => Val (fun v => pureX P al m H0 H1 (flagB ops.size m an i) o (frameT L ts0.length 0) v) (fun v => forceV v fun v' => snocE vs v' fun vs' => wdrawG P ops ts0 al m an va H0 H1 K (i + 1) r vs')) →
        ∃ (V : List VV) (G : Nat → Heap), (∃ a, V = vs ++ a) ∧ V.length = ops.size ∧ G m = H1 ∧ K V (G ops.size) ∧ ∀ j o, i ≤ j → ops.toList[j]? = some o → GFact P ops ts0 al m an va H0 H1 V G j o := by
      intro hw hg
      rw [envE_eq] at hg
      obtain ⟨v, h1, h2⟩ := hg.out
      rw [forceV_eq, snocE_eq] at h2
      refine step v h2 fun V e => .inr ⟨e2, .inr ⟨e ▸ hw, ?_⟩⟩
      rw [← e]
      exact PureF.less P al m H0 H1 (env_less ops ts0 hnd i o vs _) (pureX_sound P al m H0 H1 h1)
    have skip : ∀ (hw : vwanted ops o (tFor i o ops.toList 0 vs ts0) = some false), (snocE vs (.tp []) fun vs' => wdrawG P ops ts0 al m an va H0 H1 K (i + 1) r vs') →
        ∃ (V : List VV) (G : Nat → Heap), (∃ a, V = vs ++ a) ∧ V.length = ops.size ∧ G m = H1 ∧ K V (G ops.size) ∧ ∀ j o, i ≤ j → ops.toList[j]? = some o → GFact P ops ts0 al m an va H0 H1 V G j o := by
      intro hw hg
      rw [snocE_eq] at hg
      exact step _ hg fun V e => .inr ⟨e2, .inl ⟨e ▸ hw, rfl⟩⟩
    split at h
    · rename_i hg
      exact go (by simp [vwanted, hg]) h
    · rename_i j want hg
      split at h
      case h_2 => exact h.elim
      rename_i hwt
      have hgd' := hgd i o j want ho hg
      have hval : ∀ u, vs[j]? = some u → ∃ d, (ops[j]?).bind (·.dst) = some d ∧ (tFor i o ops.toList 0 vs ts0)[d]? = some u := fun u hu => by
        cases hd2 : (ops[j]?).bind (·.dst) with
        | none => rw [hd2] at hgd'; cases hgd'
        | some d =>
          refine ⟨d, rfl, ?_⟩
          cases hx : ops[j]? with
          | none => rw [hx] at hd2; cases hd2
          | some x =>
            rw [hx] at hd2
            have hx' : ops.toList[j]? = some x := by simpa using hx
            have hxd : x.dst = some d := hd2
            have := (tFor_get i o ops.toList 0 vs ts0 hnd).2.2 j d x hx' hxd (hbd j x hx' d hxd)
            rw [this, Nat.zero_add, hwt, hu]
            rfl
      split at h
      · rename_i b hb3
        obtain ⟨d, e1, e2⟩ := hval _ hb3
        simp only [setE_eq] at h
        cases b with
        | true =>
          simp only [ifB] at h
          rw [set_same hb3] at h
          cases want with
          | true => exact go (by simp [vwanted, hg, e1, e2]) h
          | false => exact skip (by simp [vwanted, hg, e1, e2]) h
        | false =>
          simp only [ifB] at h
          rw [set_same hb3] at h
          cases want with
          | false => exact go (by simp [vwanted, hg, e1, e2]) h
          | true => exact skip (by simp [vwanted, hg, e1, e2]) h
      · rename_i hb3
        obtain ⟨d, e1, e2⟩ := hval _ hb3
        exact skip (by simp [vwanted, hg, e1, e2]) h
      · exact h.elim
end
def goG (P : Program) (ops : Array Oper) (ts0 : List VV) (al m : Nat) (H : Heap) (K : List VV → Heap → Prop) : Prop := match allocAt P ops al H with
  | some (va, H1) => forceNL (ancIn ops.toList m [m]) fun an => wdrawG P ops ts0 al m an va H H1 K 0 ops.toList []
  | none => False
/-- The rule. -/
theorem GWP.drawG {P : Program} {r : Option Nat} {id : Nat} {ops : Array Oper} {Q : Exit → VSt → Prop} {s : VSt} (hm : P.follows .mixedOrders = true) (al m n : Nat) (hb : (backN 0 ops.toList && nodupN (dstsOf ops.toList) && fitN n ops && tailG ops.toList al m && (Nat.blt al m || Nat.beq al ops.size)) = true) (hlen : s.tmps.length = n)
    (h : match s with | ⟨ts0, H, md⟩ => goG P ops ts0 al m H (fun V H' => tAllE ops.toList V ts0 fun ts => Q .normal ⟨ts, H', md⟩)) : GWP P r (.region id ops true) Q s := ⟨by
  obtain ⟨ts0, H, md⟩ := s
  simp only [Bool.and_eq_true] at hb
  obtain ⟨⟨⟨⟨hb1, hb2⟩, hb3⟩, hb4⟩, hb5⟩ := hb
  have hback : ∀ i o, ops.toList[i]? = some o → ∀ e ∈ o.after.toList, bindsA e = true → e.on < i := fun i o ho e he hbe => by
    have := backN_iff hb1 i o ho e he hbe
    omega
  have hlen : ts0.length = n := hlen
  have hfit : ∀ (i : Nat) (o : Oper), ops.toList[i]? = some o → (∀ d, o.dst = some d → d < ts0.length) ∧ ∀ (j : Nat) (w : Bool), o.guard = some (j, w) → ((ops[j]?).bind (fun x : Oper => x.dst)).isSome = true := fun i o ho => by
    have := List.all_eq_true.1 hb3 o (List.mem_of_getElem? ho)
    simp only [Bool.and_eq_true] at this
    refine ⟨fun d hd => ?_, fun j w hg => ?_⟩
    · have h1 := this.1
      rw [hd] at h1
      rw [hlen]
      exact Nat.le_of_ble_eq_true h1
    · have h1 := this.2
      rw [hg] at h1
      exact h1
  have hta := tailG_anc hb4
  have hmle : m ≤ ops.size := by
    have := hb4
    simp only [tailG, Bool.or_eq_true, Bool.and_eq_true] at this
    rcases this with this | this
    · have := Nat.eq_of_beq_eq_true this
      simp at this
      omega
    · have := Nat.le_of_ble_eq_true this.1.1
      simpa using this
  have h : goG P ops ts0 al m H (fun V H' => tAllE ops.toList V ts0 fun ts => Q .normal ⟨ts, H', md⟩) := h
  unfold goG at h
  split at h
  case h_2 => exact h.elim
  rename_i va H1 hal
  rw [forceNL_eq] at h
  obtain ⟨V, G, _, hl, hG, hk, hq⟩ := wdrawG_sound P ops ts0 al m (ancIn ops.toList m [m]) va H H1 _ hback (nodup_of hb2) (fun i o ho => (hfit i o ho).1) (fun i o j w ho => (hfit i o ho).2 j w) hmle ops.toList 0 [] rfl rfl (Nat.zero_le _) h
  rw [tAllE_eq] at hk
  have hblt : Nat.blt al m = decide (al < m) := by
    by_cases h : al < m
    · rw [decide_eq_true h]; exact blt_iff.2 h
    · rw [decide_eq_false h]
      cases hb : Nat.blt al m
      · rfl
      · exact absurd (blt_iff.1 hb) h
  have halw : al < m ∨ (ops.size ≤ al ∧ H1 = H) := by
    simp only [Bool.or_eq_true] at hb5
    rcases hb5 with h5 | h5
    · exact .inl (blt_iff.1 h5)
    · have h5 := Nat.eq_of_beq_eq_true h5
      refine .inr ⟨by omega, ?_⟩
      unfold allocAt at hal
      rw [List.getElem?_eq_none (by simp; omega)] at hal
      simp at hal
      exact hal.2.symm
  have halo : al < m → ∃ o, ops.toList[al]? = some o ∧ o.guard = none ∧ ∀ ts, vop P o ts H = some (va, H1) := fun hlt => by
    unfold allocAt at hal
    rw [List.getElem?_eq_getElem (show al < ops.toList.length by simp; omega)] at hal
    simp only at hal
    split at hal
    · rename_i t ho hg
      exact ⟨_, List.getElem?_eq_getElem _, hg, fun ts => by simp only [vop, ho]; exact hal⟩
    · cases hal
  -- the heap behind so many events
  have hcnt := fun i hi => cnt_ev al m i hi ops.size
  have hcntA : cnt (fun j => (Nat.beq j al && Nat.blt al m) || Nat.ble m j) ops.size = (if al < m then 1 else 0) + (ops.size - m) := by
    have h1 := hcnt ops.size hmle
    have h2 : cnt (fun j => ((Nat.beq j al && Nat.blt al m) || Nat.ble m j) && Nat.blt j ops.size) ops.size = cnt (fun j => (Nat.beq j al && Nat.blt al m) || Nat.ble m j) ops.size := cnt_congr fun j hj => by
      have : Nat.blt j ops.size = true := blt_iff.2 hj
      rw [this, Bool.and_true]
    rw [← h2, h1]
    by_cases c : al < m
    · rw [if_pos ⟨c, by omega⟩, if_pos c]; omega
    · rw [if_neg (by omega), if_neg c]; omega
  refine VWP.draw (vals := V) (G := fun c => if al < m then (if c = 0 then H else G (m + (c - 1))) else G (m + c)) (ev := fun j => (Nat.beq j al && Nat.blt al m) || Nat.ble m j) hm
    ⟨by simpa using hl.symm, nodup_of hb2, hback, fun i j hi h1 h2 hji => ?_, fun i o ho hw => ?_, fun i o ho => ?_, fun i o v ho hw hev hv => ?_, fun i o v p ho hw hev hv hA hD => ?_⟩ ?_ ?_
  · -- order
    have him : m ≤ i := by
      rcases Bool.or_eq_true_iff.1 h1 with q | q
      · rcases Bool.or_eq_true_iff.1 h2 with q2 | q2
        · simp only [Bool.and_eq_true] at q q2
          have := Nat.eq_of_beq_eq_true q.1
          have := Nat.eq_of_beq_eq_true q2.1
          omega
        · simp only [Bool.and_eq_true] at q
          have := Nat.eq_of_beq_eq_true q.1
          have := Nat.le_of_ble_eq_true q2
          have := blt_iff.1 q.2
          omega
      · exact Nat.le_of_ble_eq_true q
    have := hta (i - m) j (by simp; omega) (by omega) fun hjm => by
      rcases Bool.or_eq_true_iff.1 h2 with q2 | q2
      · simp only [Bool.and_eq_true] at q2
        have e := Nat.eq_of_beq_eq_true q2.1
        have h5 := hb4
        simp only [tailG, Bool.or_eq_true, Bool.and_eq_true] at h5
        rcases h5 with h5 | h5
        · have := Nat.eq_of_beq_eq_true h5; simp at this; omega
        · rcases h5.2 with h6 | h6
          · rw [e]; exact memN_iff.1 h6
          · have := Nat.eq_of_beq_eq_true h6; simp at this; omega
      · have := Nat.le_of_ble_eq_true q2; omega
    rwa [show m + (i - m) = i by omega] at this
  · -- skip
    obtain ⟨v, h1, h2⟩ := hq i o (Nat.zero_le _) ho
    have hil : i < ops.size := by have := (List.getElem?_eq_some_iff.1 ho).1; simpa using this
    by_cases hmi : m ≤ i
    · rw [decide_eq_true hmi] at h2
      have h3 := h2.1
      rw [hw] at h3
      simp at h3
    · rw [decide_eq_false hmi] at h2
      rcases h2 with ⟨e, _⟩ | ⟨ne, ⟨_, rfl⟩ | ⟨h2, _⟩⟩
      · subst e
        obtain ⟨o2, g1, g2, _⟩ := halo (by omega)
        rw [ho] at g1; injection g1 with g1; subst g1
        simp [vwanted, g2] at hw
      · refine ⟨h1, ?_⟩
        rw [Bool.or_eq_false_iff]
        constructor
        · rw [Bool.and_eq_false_iff]
          by_cases e : i = al
          · subst e
            right
            cases hbb : Nat.blt i m
            · rfl
            · obtain ⟨o2, g1, g2, _⟩ := halo (blt_iff.1 hbb)
              rw [ho] at g1; injection g1 with g1; subst g1
              simp [vwanted, g2] at hw
          · left
            rcases beq_cases i al with ⟨_, e2⟩ | ⟨h3, _⟩
            · exact absurd e2 e
            · exact h3
        · cases hbb : Nat.ble m i
          · rfl
          · exact absurd (Nat.le_of_ble_eq_true hbb) hmi
      · rw [hw] at h2; simp at h2
  · -- wanted is known
    obtain ⟨v, h1, h2⟩ := hq i o (Nat.zero_le _) ho
    by_cases hmi : m ≤ i
    · rw [decide_eq_true hmi] at h2
      have h3 := h2.1
      rw [h3]; simp
    · rw [decide_eq_false hmi] at h2
      rcases h2 with ⟨e, _⟩ | ⟨ne, ⟨h2, _⟩ | ⟨h2, _⟩⟩
      · subst e
        obtain ⟨o2, g1, g2, _⟩ := halo (by omega)
        rw [ho] at g1; injection g1 with g1; subst g1
        simp [vwanted, g2]
      · rw [h2]; simp
      · rw [h2]; simp
  · -- events
    obtain ⟨u, h1, h2⟩ := hq i o (Nat.zero_le _) ho
    rw [hv] at h1; injection h1 with h1; subst h1
    have hil : i < ops.size := by have := (List.getElem?_eq_some_iff.1 ho).1; simpa using this
    by_cases hmi : m ≤ i
    · rw [decide_eq_true hmi] at h2
      replace h2 := h2.2
      have hc := hcnt i hmi
      have hmin : min ops.size i = i := by omega
      rw [hmin] at hc
      rw [hc]
      by_cases c : al < m
      · simp only [if_pos c, if_pos (And.intro c (show al < ops.size by omega))]
        rw [if_neg (by omega), if_neg (by omega), show m + (1 + (i - m) - 1) = i by omega, show m + (1 + (i - m) + 1 - 1) = i + 1 by omega]
        exact h2
      · simp only [if_neg c, if_neg (show ¬ (al < m ∧ al < ops.size) by omega)]
        rw [show m + (0 + (i - m)) = i by omega, show m + (0 + (i - m) + 1) = i + 1 by omega]
        exact h2
    · have hia : i = al ∧ al < m := by
        rcases Bool.or_eq_true_iff.1 hev with q | q
        · simp only [Bool.and_eq_true] at q
          exact ⟨Nat.eq_of_beq_eq_true q.1, blt_iff.1 q.2⟩
        · exact absurd (Nat.le_of_ble_eq_true q) hmi
      obtain ⟨rfl, hlt⟩ := hia
      obtain ⟨o2, g1, g2, g3⟩ := halo hlt
      rw [ho] at g1; injection g1 with g1; subst g1
      rw [decide_eq_false hmi] at h2
      have hc0 : cnt (fun j => ((Nat.beq j i && Nat.blt i m) || Nat.ble m j) && Nat.blt j i) ops.size = 0 := by
        rw [cnt_congr (g := fun _ => false) fun j hj => ?_]
        · exact cnt_false _
        · cases hbb : Nat.blt j i
          · simp
          · have hji := blt_iff.1 hbb
            have e1 : Nat.beq j i = false := by
              rcases beq_cases j i with ⟨_, e⟩ | ⟨h3, _⟩
              · omega
              · exact h3
            have e2 : Nat.ble m j = false := by
              cases hq2 : Nat.ble m j
              · rfl
              · have := Nat.le_of_ble_eq_true hq2; omega
            simp [e1, e2]
      rw [hc0]
      simp only [if_pos hlt, if_true]
      rw [if_neg (by omega), show m + (0 + 1 - 1) = m by omega, hG]
      have hvv : v = va := by
        rcases h2 with ⟨_, e⟩ | ⟨ne, _⟩
        · exact e
        · exact absurd rfl ne
      subst hvv
      exact VOne.plain (g3 _)
  · -- the others
    obtain ⟨u, h1, h2⟩ := hq i o (Nat.zero_le _) ho
    rw [hv] at h1; injection h1 with h1; subst h1
    rcases Bool.or_eq_false_iff.1 hev with ⟨k1, k2⟩
    have hmi : ¬ m ≤ i := fun hh => by rw [Nat.ble_eq_true_of_le hh] at k2; cases k2
    rw [decide_eq_false hmi] at h2
    rcases h2 with ⟨e, _⟩ | ⟨ne, ⟨h2, _⟩ | ⟨_, q⟩⟩
    · subst e
      have hlt : i < m := by omega
      rw [hblt, decide_eq_true hlt, Bool.and_true] at k1
      simp [Nat.beq_refl] at k1
    · rw [hw] at h2; simp at h2
    · unfold PureF at q
      cases hfl : flagB ops.size m (ancIn ops.toList m [m]) i with
      | false => rw [hfl] at q; exact q _
      | true =>
        rw [hfl] at q
        obtain ⟨q1, q2⟩ := q
        have hd := hD (fun j => Nat.ble m j && Nat.blt j ops.size) fun j hj => by
          simp only [Bool.and_eq_true] at hj
          have hmj := Nat.le_of_ble_eq_true hj.1
          have hjs := blt_iff.1 hj.2
          refine ⟨by simp [hj.1], ?_⟩
          have := hta (j - m) i (by simp; omega) (by omega) fun _ => by
            unfold flagB at hfl
            split at hfl
            · rename_i hbq
              have := Nat.eq_of_beq_eq_true hbq
              omega
            · exact memN_iff.1 hfl
          rwa [show m + (j - m) = j by omega] at this
        have hcd : cnt (fun j => Nat.ble m j && Nat.blt j ops.size) ops.size = ops.size - m := by
          have h3 := cnt_ev ops.size m ops.size hmle ops.size
          rw [if_neg (by omega)] at h3
          rw [show ops.size - m = 0 + (min ops.size ops.size - m) by omega, ← h3]
          refine cnt_congr fun j hj => ?_
          have : Nat.blt ops.size m = false := by
            cases hbb : Nat.blt ops.size m
            · rfl
            · have := blt_iff.1 hbb; omega
          simp [this]
        rw [hcd, hcntA] at hd
        by_cases c : al < m
        · simp only [if_pos c] at hd ⊢
          by_cases hp : p = 0
          · simp only [if_pos hp]; exact q1
          · have : p = 1 := by omega
            subst this
            simp only [if_neg (show ¬ (1 : Nat) = 0 by omega), Nat.sub_self, Nat.add_zero, hG]
            exact q2 c
        · simp only [if_neg c] at hd ⊢
          have : p = 0 := by omega
          subst this
          rcases halw with q | ⟨_, e⟩
          · exact absurd q c
          · rw [Nat.add_zero, hG, e]; exact q1
  · -- the first heap
    by_cases c : al < m
    · simp only [if_pos c, if_true]
    · simp only [if_neg c, Nat.add_zero, hG]
      rcases halw with q | ⟨_, e⟩
      · exact absurd q c
      · exact e
  · -- the last
    rw [hcntA]
    by_cases c : al < m
    · simp only [if_pos c]
      by_cases hz : 1 + (ops.size - m) = 0
      · omega
      · rw [if_neg hz, show m + (1 + (ops.size - m) - 1) = ops.size by omega]; exact hk
    · simp only [if_neg c]
      rw [show m + (0 + (ops.size - m)) = ops.size by omega]; exact hk⟩
end Go.Proofs.YtmmjgbdihgdekaaDoor

