/- A call leaves alone what it isn't given; loops over functions, in the walk. Over any program. -/
import Derived.Test.YtbnemkdkeaiaoaaV6
namespace Go.Proofs.Ytbnemkdkeaiaoaa
open Go Go.RowKit
set_option linter.unusedSimpArgs false
set_option linter.unusedVariables false
theorem hget_app (a b : List (Nat × VObj)) (k : Nat) : hget (a ++ b) k = (match hget a k with
  | some x => some x
  | none => hget b k) := by
  induction a with
  | nil => rfl
  | cons p r ih =>
    obtain ⟨j, o⟩ := p
    rw [List.cons_append, hget_cons, hget_cons]
    split
    · rfl
    · exact ih
/-- What stands beside: the names of F are not those of H. -/
structure Beside (H : Heap) (F : List (Nat × VObj)) : Prop where
  none : ∀ b x, hget F b = some x → H.get b = none
/-- All of it may be written. -/
def AllRw (H : Heap) : Prop := ∀ b x, H.get b = some x → x.rw = true
section
variable {P : Program} {B w w' : World} {M Z Z' : Nat → Prop} {ρ ρ' : Nat → Option (Nat × Nat)} {H H1 K : Heap} {F : List (Nat × VObj)}
/-- The old blocks that the walk may write. -/
def Mine (H1 : Heap) (ρ : Nat → Option (Nat × Nat)) (k : Nat) : Prop := ∃ b x N, H1.get b = some x ∧ x.rw = true ∧ ρ b = some (k, N)
theorem Rel.part (h : Rel B M Z ρ H w) (hn : H1.next = H.next) (hs : ∀ b x, H1.get b = some x → H.get b = some x) : Rel w (Mine H1 ρ) Z ρ H1 w :=
  ⟨fun w' a b c d e => h.glob w' (a.trans h.os) (b.trans h.tape) (c.trans h.output) (Nat.le_trans h.size d) fun k hk hM => (e k (Nat.lt_of_lt_of_le hk h.size) fun ⟨b, x, N, g1, g2, g3⟩ => by
      obtain ⟨k', N', o, q1, q2, q3, q4, q5⟩ := h.objK (hs _ _ g1) g3
      rw [g3] at q1; injection q1 with q1; injection q1 with q1 q1'; subst q1
      rcases q5 g2 with q | q
      · omega
      · exact hM q).trans (h.frame k hk hM), rfl, rfl, rfl, Nat.le_refl _, fun _ _ _ => rfl, fun b hb => h.dom b (hn ▸ hb), fun b x hx => hn ▸ h.live b x (hs b x hx), fun b b' k N N' x x' hx hx' => h.inj b b' k N N' x x' (hs _ _ hx) (hs _ _ hx'),
    fun b x hx => by
      rcases h.obj b x (hs _ _ hx) with hg | ⟨k, N, o, h1, h2, h3, h4, h5⟩
      · exact .inl hg
      exact .inr ⟨k, N, o, h1, h2, h3, h4, fun hr => .inr ⟨b, x, N, hx, hr, h1⟩⟩, h.zlt⟩
theorem Rel.whole (h : Rel B M Z ρ H w) (hn : H1.next = H.next) (hs : ∀ b x, H1.get b = some x → H.get b = some x) (hF : ∀ b x, hget F b = some x → H.get b = some x) (hB : Beside H1 F)
    (e : Ext (own w (Mine H1 ρ)) H1.next Z ρ w K.next Z' ρ' w') (r : Rel w (Mine H1 ρ) Z' ρ' K w') (hK : AllRw K) (hKF : Beside K F) : Ext (own B M) H.next Z ρ w K.next Z' ρ' w' ∧ Rel B M Z' ρ' ⟨K.objs ++ F, K.next⟩ w' := by
  have hget : ∀ b, (⟨K.objs ++ F, K.next⟩ : Heap).get b = match K.get b with
    | some x => some x
    | none => hget F b := fun b => hget_app _ _ _
  have old : ∀ k, Mine H1 ρ k → B.heap.size ≤ k ∨ M k := fun k ⟨b, x, N, h1, h2, h3⟩ => by
    obtain ⟨k', N', o, g1, g2, g3, g4, g5⟩ := h.objK (hs _ _ h1) h3
    rw [h3] at g1; injection g1 with g1; injection g1 with g1 g1'; subst g1
    exact g5 h2
  have fblock : ∀ b x, Go.Proofs.Ytbnemkdkeaiaoaa.hget F b = some x → (x.ghost = true ∧ ρ b = none) ∨ ∃ k N o, ρ b = some (k, N) ∧ ρ' b = some (k, N) ∧ w.heap[k]? = some o ∧ ORel w Z ρ N x o ∧ ¬ Z k ∧ (x.rw = true → B.heap.size ≤ k ∨ M k) ∧ k < w.heap.size ∧ ¬ Mine H1 ρ k := fun b x hx => by
    rcases h.obj b x (hF _ _ hx) with hg | ⟨k, N, o, h1, h2, h3, h4, h5⟩
    · exact .inl hg
    refine .inr ⟨k, N, o, h1, e.rsub _ _ h1, h2, h3, h4, h5, h.lt (hF _ _ hx) h1, fun ⟨b', x', N', m1, m2, m3⟩ => ?_⟩
    have := h.inj b b' k N N' x x' (hF _ _ hx) (hs _ _ m1) h1 m3
    subst this
    rw [hB.none b x hx] at m1
    cases m1
  have gnone : ∀ b x, Go.Proofs.Ytbnemkdkeaiaoaa.hget F b = some x → ρ b = none → ρ' b = none := fun b x hx h0 => by
    rw [e.rold b (hn ▸ h.live b x (hF _ _ hx))]; exact h0
  have fblockK : ∀ b x k N, Go.Proofs.Ytbnemkdkeaiaoaa.hget F b = some x → ρ' b = some (k, N) → ∃ k N o, ρ b = some (k, N) ∧ ρ' b = some (k, N) ∧ w.heap[k]? = some o ∧ ORel w Z ρ N x o ∧ ¬ Z k ∧ (x.rw = true → B.heap.size ≤ k ∨ M k) ∧ k < w.heap.size ∧ ¬ Mine H1 ρ k := fun b x k N hx hk => by
    rcases fblock b x hx with ⟨_, g⟩ | g
    · rw [gnone b x hx g] at hk; cases hk
    · exact g
  have kblock : ∀ b x k N, K.get b = some x → ρ' b = some (k, N) → w.heap.size ≤ k ∨ Mine H1 ρ k := fun b x k N hx hk => by
    obtain ⟨k', N', o, g1, g2, g3, g4, g5⟩ := r.objK hx hk
    rw [hk] at g1; injection g1 with g1; injection g1 with g1 g1'; subst g1
    exact g5 (hK b x hx)
  refine ⟨⟨hn ▸ e.nle, fun b hb => e.rold b (hn.symm ▸ hb), e.zsub, e.rsub, e.keep, e.size, fun k hk => (e.znew k hk).imp id fun q => q.elim .inl fun q => q.elim .inl fun q => .inr (old k q)⟩, h.glob, r.os.trans h.os, r.tape.trans h.tape, r.output.trans h.output, Nat.le_trans h.size r.size, ?_, r.dom, ?_, ?_, ?_, r.zlt⟩
  · intro k hk hM
    have hsz := h.size
    rw [r.frame k (by omega) (fun hm => (old k hm).elim (fun q => by omega) hM)]
    exact h.frame k hk hM
  · intro b x hx
    rw [hget] at hx
    cases hkb : K.get b with
    | some y => exact r.live b y hkb
    | none =>
      rw [hkb] at hx
      exact Nat.lt_of_lt_of_le (h.live b x (hF _ _ hx)) (hn ▸ e.nle)
  · intro b b' k N N' x x' hx hx' hb hb'
    rw [hget] at hx hx'
    cases hkb : K.get b with
    | some y =>
      cases hkb' : K.get b' with
      | some y' => exact r.inj b b' k N N' y y' hkb hkb' hb hb'
      | none =>
        rw [hkb'] at hx'
        obtain ⟨k2, N2, o, f1, f2, f3, f4, f5, f6, f7, f8⟩ := fblockK b' x' _ _ hx' hb'
        rw [hb'] at f2; injection f2 with f2; injection f2 with f2 f2'; subst f2
        exact ((kblock b y k N hkb hb).elim (fun q => by omega) (fun q => absurd q f8))
    | none =>
      rw [hkb] at hx
      obtain ⟨k2, N2, o, f1, f2, f3, f4, f5, f6, f7, f8⟩ := fblockK b x _ _ hx hb
      rw [hb] at f2; injection f2 with f2; injection f2 with f2 f2'; subst f2
      cases hkb' : K.get b' with
      | some y' => exact ((kblock b' y' k N' hkb' hb').elim (fun q => by omega) (fun q => absurd q f8))
      | none =>
        rw [hkb'] at hx'
        obtain ⟨k3, N3, o3, p1, p2, _⟩ := fblockK b' x' _ _ hx' hb'
        rw [hb'] at p2; injection p2 with p2; injection p2 with p2 p2'; subst p2
        exact h.inj b b' k _ _ x x' (hF _ _ hx) (hF _ _ hx') f1 p1
  · intro b x hx
    rw [hget] at hx
    cases hkb : K.get b with
    | some y =>
      rw [hkb] at hx
      injection hx with hx
      subst hx
      rcases r.obj b y hkb with hg | ⟨k, N, o, g1, g2, g3, g4, g5⟩
      · exact .inl hg
      refine .inr ⟨k, N, o, g1, g2, g3, g4, fun hr => ?_⟩
      rcases g5 hr with q | q
      · exact .inl (Nat.le_trans h.size q)
      · exact old k q
    | none =>
      rw [hkb] at hx
      rcases fblock b x hx with ⟨hg, hg2⟩ | ⟨k, N, o, f1, f2, f3, f4, f5, f6, f7, f8⟩
      · exact .inl ⟨hg, gnone b x hx hg2⟩
      refine .inr ⟨k, N, o, f2, (r.frame k f7 f8).trans f3, f4.ext e, fun hz => ?_, f6⟩
      rcases e.znew k hz with q | q | q | q
      · exact f5 q
      · omega
      · omega
      · exact f8 q
/-- The frame rule for calls. -/
theorem VCall.framed {f : FuncId} {args : List VV} {Q : VV → Heap → Prop} (H1 : Heap) (F : List (Nat × VObj)) (hn : H1.next = H.next) (hs : ∀ b x, H1.get b = some x → H.get b = some x) (hF : ∀ b x, hget F b = some x → H.get b = some x) (hB : Beside H1 F)
    (h : VCall P f args H1 Q) (hQ : ∀ v K, Q v K → AllRw K ∧ Beside K F) : VCall P f args H (fun v K2 => ∃ K, Q v K ∧ K2 = ⟨K.objs ++ F, K.next⟩) := fun B M Z ρ w ra h1 h2 =>
  (h w (Mine H1 ρ) Z ρ w ra (h1.part hn hs) h2).mono fun e w' ⟨v', v, K, Z', ρ', he, q, e1, r1, v1⟩ => by
    obtain ⟨q1, q2⟩ := hQ v K q
    obtain ⟨e2, r2⟩ := h1.whole hn hs hF hB e1 r1 q1 q2
    exact ⟨v', v, _, Z', ρ', he, ⟨K, q, rfl⟩, e2, r2, v1⟩
/-- The frame rule for rounds. -/
theorem VRound.framed {l : Nat} {args : List VV} {Q : VV → Heap → Prop} (H1 : Heap) (F : List (Nat × VObj)) (hn : H1.next = H.next) (hs : ∀ b x, H1.get b = some x → H.get b = some x) (hF : ∀ b x, hget F b = some x → H.get b = some x) (hB : Beside H1 F)
    (h : VRound P l args H1 Q) (hQ : ∀ v K, Q v K → AllRw K ∧ Beside K F) : VRound P l args H (fun v K2 => ∃ K, Q v K ∧ K2 = ⟨K.objs ++ F, K.next⟩) := fun B M Z ρ w ra k N hk h1 h2 => by
  obtain ⟨fn, tmps, asg, bd, hr, h⟩ := h w (Mine H1 ρ) Z ρ w ra k N hk (h1.part hn hs) h2
  refine ⟨fn, tmps, asg, bd, hr, RoundIn.mono h ?_⟩
  rintro e w' ⟨v', v, K, Z', ρ', he, q, e1, r1, v1⟩
  obtain ⟨q1, q2⟩ := hQ v K q
  obtain ⟨e2, r2⟩ := h1.whole hn hs hF hB e1 r1 q1 q2
  exact ⟨v', v, _, Z', ρ', he, ⟨K, q, rfl⟩, e2, r2, v1⟩
theorem VRound.mono {l : Nat} {args : List VV} {R R' : VV → Heap → Prop} (h : VRound P l args H R) (hq : ∀ v H', R v H' → R' v H') : VRound P l args H R' := fun B M Z ρ w ra k N hk h1 h2 => by
  obtain ⟨fn, tmps, asg, bd, hr, h⟩ := h B M Z ρ w ra k N hk h1 h2
  refine ⟨fn, tmps, asg, bd, hr, RoundIn.mono h ?_⟩
  rintro e w' ⟨v', v, K, Z', ρ', he, q, r⟩
  exact ⟨v', v, K, Z', ρ', he, hq _ _ q, r⟩
/-- What is there may be forgotten, but not the names. -/
theorem VCall.less' {f : FuncId} {args : List VV} {Q : VV → Heap → Prop} (hn : H1.next = H.next) (hs : ∀ b x, H1.get b = some x → H.get b = some x) (h : VCall P f args H1 Q) : VCall P f args H Q := fun B M Z ρ w ra h1 h2 =>
  (h B M Z ρ w ra (h1.weaken hn hs) h2).mono fun e w' ⟨v', v, K, Z', ρ', he, q, e1, r⟩ => ⟨v', v, K, Z', ρ', he, q, hn ▸ e1, r⟩
theorem VRound.less' {l : Nat} {args : List VV} {Q : VV → Heap → Prop} (hn : H1.next = H.next) (hs : ∀ b x, H1.get b = some x → H.get b = some x) (h : VRound P l args H1 Q) : VRound P l args H Q := fun B M Z ρ w ra k N hk h1 h2 => by
  obtain ⟨fn, tmps, asg, bd, hr, h⟩ := h B M Z ρ w ra k N hk (h1.weaken hn hs) h2
  refine ⟨fn, tmps, asg, bd, hr, RoundIn.mono h ?_⟩
  rintro e w' ⟨v', v, K, Z', ρ', he, q, e1, r⟩
  exact ⟨v', v, K, Z', ρ', he, q, hn ▸ e1, r⟩
end
end Go.Proofs.Ytbnemkdkeaiaoaa
