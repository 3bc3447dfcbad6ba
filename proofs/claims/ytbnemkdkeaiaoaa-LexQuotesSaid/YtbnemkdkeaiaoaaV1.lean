/- The reckoner: code and calls. Over any program. -/
import Derived.Test.YtbnemkdkeaiaoaaVz
namespace Go.Proofs.Ytbnemkdkeaiaoaa
open Go Go.RowKit
set_option linter.unusedSimpArgs false
set_option linter.unusedVariables false

abbrev CodeF := Option Nat → Code → VSt → Option (Exit × VSt)
/-- A call, where it is known how code is run. -/
def vcallW (P : Program) (ev : CodeF) : CallF := fun f args H => match P.funcs[f]? with
  | some fn => match fn.body with
    | some c => match ev none c ⟨args ++ List.replicate (fn.ntmps - args.length) (.tp []), H, []⟩ with
      | some (.normal, s) | some (.ret, s) => match vleave s.marks s.heap with
        | some H' => match vresAll P fn s.tmps H' with
          | some v => some (v, H')
          | none => none
        | none => none
      | _ => none
    | none => none
  | none => none
/-- A round of a loop over a function. -/
def vroundW (P : Program) (ev : CodeF) : CallF := fun l args H => match H.get l with
  | some (.loop tmps ps asg bd .ready _ _) => match Nat.beq args.length ps.length with
    | true => match ev (some l) asg ⟨setParams tmps ps args, H, []⟩ with
      | some (.normal, ⟨ts1, H1, []⟩) => match H1.get l with
        | some (.loop tmps1 ps1 asg1 bd1 .ready pe1 d1) => match ev (some l) bd ⟨ts1, H1.set l (.loop tmps1 ps1 asg1 bd1 .busy pe1 d1), []⟩ with
          | some (e, ⟨_, H2, []⟩) => match pendOf e, H2.get l with
            | some p, some (.loop tmps2 ps2 asg2 bd2 .busy _ d2) => some (.sc (.bool p.isNone), H2.set l (.loop tmps2 ps2 asg2 bd2 (if p.isNone then .ready else .done) p d2))
            | _, _ => none
          | _ => none
        | _ => none
      | _ => none
    | false => none
  | _ => none
def vloop (g : VSt → Option (Exit × VSt)) : Nat → VSt → Option (Exit × VSt)
  | 0, _ => none
  | n + 1, s => match g s with
    | some (.normal, s') => vloop g n s'
    | x => x
/-- Behind a loop over a function. -/
def vafter (l : Nat) (ts : List VV) (marks : List Nat) (H : Heap) : Option (Exit × VSt) := match H.get l with
  | some (.loop _ _ _ _ st pe _) => match st with
    | .busy => none
    | _ => match pe with
      | none => some (.normal, ⟨ts, H.del l, marks⟩)
      | some .ret => some (.ret, ⟨ts, H.del l, marks⟩)
      | some (.exit i) => some (.exit i, ⟨ts, H.del l, marks⟩)
      | some (.goto t) => some (.goto t, ⟨ts, H.del l, marks⟩)
      | _ => none
  | _ => none
def vrange (P : Program) (call : CallF) (r : Option Nat) (g : Operand) (ps : Array Tmp) (asg bd : Code) (s : VSt) : Option (Exit × VSt) := match veval s.tmps g with
  | .fn (.func gf) [] capt => match enterB P gf with
    | true => match r with
      | none => match call gf (.yl (s.heap.next + 1) :: capt) ((s.heap.add .defs).add (.loop s.tmps ps.toList asg bd .ready none s.heap.next)) with
        | some (_, H') => vafter (s.heap.next + 1) s.tmps (s.heap.next :: s.marks) H'
        | none => none
      | some l0 => match s.heap.get l0 with
        | some (.loop _ _ _ _ _ _ d0) => match call gf (.yl s.heap.next :: capt) (s.heap.add (.loop s.tmps ps.toList asg bd .ready none d0)) with
          | some (_, H') => vafter s.heap.next s.tmps s.marks H'
          | none => none
        | _ => none
    | false => none
  | _ => none
def vcode (P : Program) : Nat → CodeF
  | 0, _, _, _ => none
  | n + 1, r, c, s => match c with
    | .skip => some (.normal, s)
    | .label _ => some (.normal, s)
    | .region _ ops false => match vseq P (vcallW P (vcode P n)) (vroundW P (vcode P n)) ops ops.toList s with
      | some s' => some (.normal, s')
      | none => none
    | .region _ ops true => match vdraw P (vcallW P (vcode P n)) (vroundW P (vcode P n)) ops s with
      | some s' => some (.normal, s')
      | none => none
    | .seq x y => match vcode P n r x s with
      | some (.normal, s') => vcode P n r y s'
      | z => z
    | .cond c x y => match veval s.tmps c with
      | .sc (.bool true) => vcode P n r x s
      | .sc (.bool false) => vcode P n r y s
      | _ => none
    | .block id c => match vcode P n r c s with
      | some (.exit j, s') => match Nat.beq j id with
        | true => some (.normal, s')
        | false => some (.exit j, s')
      | z => z
    | .loop c => vloop (vcode P n r c) n s
    | .exit i => some (.exit i, s)
    | .ret => some (.ret, s)
    | .rangeFunc g ps asg bd => vrange P (vcallW P (vcode P n)) r g ps asg bd s
    | _ => none

def CodeOK (P : Program) (ev : CodeF) : Prop := ∀ r c s e s', ev r c s = some (e, s') → VWP P r c (fun e' t => e' = e ∧ t = s') s
section
variable {P : Program} {ev : CodeF}
theorem vcallW_ok (h : CodeOK P ev) : CallOK P (vcallW P ev) := by
  intro f args H v H' hc
  unfold vcallW at hc
  split at hc
  · rename_i fn hf
    split at hc
    · rename_i c hb
      have fin : ∀ (e : Exit) (s : VSt), (e = .normal ∨ e = .ret) → ev none c ⟨args ++ List.replicate (fn.ntmps - args.length) (.tp []), H, []⟩ = some (e, s) → (match vleave s.marks s.heap with
        | some H' => match vresAll P fn s.tmps H' with
          | some v => some (v, H')
          | none => none
        | none => none) = some (v, H') → VCall P f args H (fun x K => x = v ∧ K = H') := by
        intro e s he hev hres
        split at hres
        · rename_i H1 h1
          split at hres
          · rename_i v1 h2
            simp at hres
            obtain ⟨rfl, rfl⟩ := hres
            refine VCall.body hf hb ((h _ _ _ _ _ hev).mono ?_)
            rintro e' t ⟨rfl, rfl⟩
            exact ⟨he, _, _, h1, h2, rfl, rfl⟩
          · simp at hres
        · simp at hres
      split at hc
      · rename_i s hev
        exact fin _ _ (.inl rfl) hev hc
      · rename_i s hev
        exact fin _ _ (.inr rfl) hev hc
      · simp at hc
    · simp at hc
  · simp at hc
theorem vroundW_ok (h : CodeOK P ev) : RoundOK P (vroundW P ev) := by
  intro l args H v H' hc
  unfold vroundW at hc
  split at hc
  · rename_i tmps ps asg bd pe d hl
    split at hc
    · rename_i hn
      split at hc
      · rename_i ts1 H1 h1
        split at hc
        · rename_i tmps1 ps1 asg1 bd1 pe1 d1 hl1
          split at hc
          · rename_i e ts2 H2 h2
            split at hc
            · rename_i p tmps2 ps2 asg2 bd2 pe2 d2 hp hl2
              injection hc with hc
              injection hc with hc1 hc2
              subst hc1 hc2
              refine VRound.of hl (Nat.eq_of_beq_eq_true hn) ((h _ _ _ _ _ h1).mono ?_)
              rintro e' t ⟨rfl, rfl⟩
              refine ⟨rfl, rfl, _, _, _, _, _, _, hl1, (h _ _ _ _ _ h2).mono ?_⟩
              rintro e' t ⟨rfl, rfl⟩
              exact ⟨p, _, _, _, _, _, _, hp, hl2, rfl, rfl, rfl⟩
            · simp at hc
          · simp at hc
        · simp at hc
      · simp at hc
    · simp at hc
  · simp at hc
theorem vafter_sound {l : Nat} {ts : List VV} {marks : List Nat} {H K : Heap} {e : Exit} {s' : VSt} (h : vafter l ts marks K = some (e, s')) : rangeQ l (fun e' t => e' = e ∧ t = s') ⟨ts, H, marks⟩ K := by
  unfold vafter at h
  split at h
  · rename_i tmps ps asg bd st pe d hl
    refine ⟨_, _, _, _, _, _, _, hl, ?_, ?_⟩
    · rintro rfl
      simp at h
    · split at h
      · simp at h
      · split at h <;> first
          | (simp at h; done)
          | (simp at h; obtain ⟨rfl, rfl⟩ := h; exact ⟨rfl, rfl⟩)
  · simp at h
theorem vrange_sound {call : CallF} (hc : CallOK P call) {r : Option Nat} {g : Operand} {ps : Array Tmp} {asg bd : Code} {s s' : VSt} {e : Exit} (h : vrange P call r g ps asg bd s = some (e, s')) : VWP P r (.rangeFunc g ps asg bd) (fun e' t => e' = e ∧ t = s') s := by
  unfold vrange at h
  split at h
  · rename_i gf capt hg
    split at h
    · rename_i he
      split at h
      · split at h
        · rename_i v H' hcall
          refine VWP.range0 hg (enterB_sound he) ((hc _ _ _ _ _ hcall).mono ?_)
          rintro x K ⟨rfl, rfl⟩
          exact vafter_sound h
        · simp at h
      · rename_i l0
        split at h
        · rename_i hl0
          split at h
          · rename_i v H' hcall
            refine VWP.rangeIn hg (enterB_sound he) hl0 ((hc _ _ _ _ _ hcall).mono ?_)
            rintro x K ⟨rfl, rfl⟩
            exact vafter_sound h
          · simp at h
        · simp at h
    · simp at h
  · simp at h
theorem vloop_sound {r : Option Nat} {c : Code} (h : ∀ s e s', ev r c s = some (e, s') → VWP P r c (fun e' t => e' = e ∧ t = s') s) : ∀ (n : Nat) (s s' : VSt) (e : Exit), vloop (ev r c) n s = some (e, s') → VRounds P r c (fun e' t => e' = e ∧ t = s') n s
  | 0, s, s', e, hv => by simp [vloop] at hv
  | n + 1, s, s', e, hv => by
    simp only [vloop] at hv
    split at hv
    · rename_i s1 h1
      refine (h _ _ _ h1).mono ?_
      rintro e' t ⟨rfl, rfl⟩
      exact vloop_sound h n _ _ _ hv
    · rename_i hne
      have hne' : e ≠ .normal := fun he => by subst he; exact hne s' hv
      refine (h _ _ _ hv).mono ?_
      rintro e' t ⟨rfl, rfl⟩
      cases e' with
      | normal => exact absurd rfl hne'
      | _ => exact ⟨rfl, rfl⟩
theorem vcode_ok (hm : P.follows .mixedOrders = true) : ∀ n, CodeOK P (vcode P n)
  | 0 => fun r c s e s' h => by simp [vcode] at h
  | n + 1 => by
    have ih := vcode_ok hm n
    have hc := vcallW_ok ih
    have hr := vroundW_ok ih
    intro r c s e s' h
    cases c with
    | skip => simp [vcode] at h; obtain ⟨rfl, rfl⟩ := h; exact VWP.skip ⟨rfl, rfl⟩
    | label l => simp [vcode] at h; obtain ⟨rfl, rfl⟩ := h; exact VWP.label ⟨rfl, rfl⟩
    | region id ops draw =>
      cases draw with
      | false =>
        simp only [vcode] at h
        split at h
        · rename_i s1 h1
          simp at h
          obtain ⟨rfl, rfl⟩ := h
          have := vseq_sound hc hr ops.toList 0 rfl h1
          exact VWP.region (this.mono fun t ht => ⟨rfl, ht⟩)
        · simp at h
      | true =>
        simp only [vcode] at h
        split at h
        · rename_i s1 h1
          simp at h
          obtain ⟨rfl, rfl⟩ := h
          exact vdraw_sound hm hc hr h1
        · simp at h
    | seq x y =>
      simp only [vcode] at h
      split at h
      · rename_i s1 h1
        refine VWP.seq ((ih _ _ _ _ _ h1).mono ?_)
        rintro e' t ⟨rfl, rfl⟩
        exact ih _ _ _ _ _ h
      · rename_i hne
        refine VWP.seq ((ih _ _ _ _ _ h).mono ?_)
        rintro e' t ⟨rfl, rfl⟩
        cases e' with
        | normal => exact absurd h (hne _)
        | _ => exact ⟨rfl, rfl⟩
    | cond c x y =>
      simp only [vcode] at h
      split at h
      · rename_i hv
        exact VWP.cond hv (ih _ _ _ _ _ h)
      · rename_i hv
        exact VWP.cond hv (ih _ _ _ _ _ h)
      · simp at h
    | block id c =>
      simp only [vcode] at h
      split at h
      · rename_i j s1 h1
        refine VWP.block ((ih _ _ _ _ _ h1).mono ?_)
        rintro e' t ⟨rfl, rfl⟩
        simp only [blockQ]
        split at h
        · rename_i hj
          simp at h
          obtain ⟨rfl, rfl⟩ := h
          rw [if_pos (Nat.eq_of_beq_eq_true hj)]
          exact ⟨rfl, rfl⟩
        · rename_i hj
          simp at h
          obtain ⟨rfl, rfl⟩ := h
          rw [if_neg (fun e => by subst e; rw [Nat.beq_refl] at hj; cases hj)]
          exact ⟨rfl, rfl⟩
      · rename_i hne
        refine VWP.block ((ih _ _ _ _ _ h).mono ?_)
        rintro e' t ⟨rfl, rfl⟩
        cases e' with
        | exit j => exact absurd h (hne _ _)
        | _ => exact ⟨rfl, rfl⟩
    | loop c =>
      simp only [vcode] at h
      exact VWP.rounds n (vloop_sound (fun s e s' h => ih _ _ _ _ _ h) n s s' e h)
    | exit i => simp [vcode] at h; obtain ⟨rfl, rfl⟩ := h; exact VWP.exit ⟨rfl, rfl⟩
    | ret => simp [vcode] at h; obtain ⟨rfl, rfl⟩ := h; exact VWP.ret ⟨rfl, rfl⟩
    | rangeFunc g ps asg bd =>
      simp only [vcode] at h
      exact vrange_sound hc h
    | scope c => simp [vcode] at h
    | goto l => simp [vcode] at h
    | refuse w => simp [vcode] at h
end
/-- A call, reckoned. -/
theorem VCall.run {P : Program} (hm : P.follows .mixedOrders = true) (n : Nat) {f : FuncId} {args : List VV} {H H' : Heap} {v : VV} (h : vcallW P (vcode P n) f args H = some (v, H')) : VCall P f args H (fun x K => x = v ∧ K = H') := vcallW_ok (vcode_ok hm n) _ _ _ _ _ h
end Go.Proofs.Ytbnemkdkeaiaoaa
