/- What code does to the walk's state: one rule for each form of code, for calls, and for loops over functions. Over any program. -/
import Derived.Test.YtbnemkdkeaiaoaaVs
import Derived.RangeFuncRecord
import Derived.RangeFuncNested
import Derived.Shelf.Abstract
namespace Go.Proofs.Ytbnemkdkeaiaoaa
open Go Go.RowKit
set_option linter.unusedSimpArgs false
set_option linter.unusedVariables false

structure VSt where
  tmps : List VV
  heap : Heap
  marks : List Nat
def VSt.put (s : VSt) (dst : Option Tmp) (v : VV) (H : Heap) : VSt := match dst with
  | some d => ⟨s.tmps.set d v, H, s.marks⟩
  | none => ⟨s.tmps, H, s.marks⟩
def DRel (ρ : Nat → Option (Nat × Nat)) : List Nat → List Deferred → Prop
  | [], [] => True
  | d :: r, x :: s => (∃ D N, ρ d = some (D, N) ∧ x.target = .collected D) ∧ DRel ρ r s
  | _, _ => False
structure ARel (w : World) (Z : Nat → Prop) (ρ : Nat → Option (Nat × Nat)) (s : VSt) (a : Act) : Prop where
  tmps : Pw (VRel w Z ρ) s.tmps a.tmps.toList
  marks : DRel ρ s.marks a.defers
def FW (r : Option Nat) : Fence := { Fence.wide with round := r }
def RR (ρ : Nat → Option (Nat × Nat)) : Option Nat → Option Nat → Prop
  | none, none => True
  | some l, some k => ∃ N, ρ l = some (k, N)
  | _, _ => False
section
variable {w w' : World} {Z Z' : Nat → Prop} {ρ ρ' : Nat → Option (Nat × Nat)} {n n' : Nat}
theorem DRel.ext {X : Nat → Prop} (e : Ext X n Z ρ w n' Z' ρ' w') : ∀ {m : List Nat} {d : List Deferred}, DRel ρ m d → DRel ρ' m d
  | [], [], _ => trivial
  | _ :: _, _ :: _, ⟨⟨D, N, h1, h2⟩, h3⟩ => ⟨⟨D, N, e.rsub _ _ h1, h2⟩, DRel.ext e h3⟩
  | [], _ :: _, h => h.elim
  | _ :: _, [], h => h.elim
theorem ARel.ext {X : Nat → Prop} {s : VSt} {a : Act} (h : ARel w Z ρ s a) (e : Ext X n Z ρ w n' Z' ρ' w') : ARel w' Z' ρ' s a := ⟨h.tmps.mono fun _ _ h => h.ext e, h.marks.ext e⟩
theorem RR.ext {X : Nat → Prop} {r rr : Option Nat} (h : RR ρ r rr) (e : Ext X n Z ρ w n' Z' ρ' w') : RR ρ' r rr := by
  cases r <;> cases rr <;> first | trivial | exact h.elim | (obtain ⟨N, h⟩ := h; exact ⟨N, e.rsub _ _ h⟩)
theorem ARel.put {s : VSt} {a : Act} (h : ARel w Z ρ s a) (dst : Option Tmp) {v : VV} {x : Value} (hv : VRel w Z ρ v x) (H : Heap) : ARel w Z ρ (s.put dst v H) (a.put dst x) := by
  cases dst with
  | none => exact ⟨h.tmps, h.marks⟩
  | some d => exact ⟨by simpa [VSt.put, Act.put] using h.tmps.set d hv, h.marks⟩
theorem VSt.heap_put (s : VSt) (dst : Option Tmp) (v : VV) (H : Heap) : (s.put dst v H).heap = H := by cases dst <;> rfl
end

/-- Code, walked from a state. -/
def VWP (P : Program) (r : Option Nat) (c : Code) (Q : Exit → VSt → Prop) (s : VSt) : Prop :=
  ∀ (B : World) (M Z : Nat → Prop) (ρ : Nat → Option (Nat × Nat)) (a : Act) (w : World) (rr : Option Nat) (QE : Exit → Act → World → Prop), RR ρ r rr → Rel B M Z ρ s.heap w → ARel w Z ρ s a →
    (∀ e s' Z' ρ' a' w', Q e s' → Ext (own B M) s.heap.next Z ρ w s'.heap.next Z' ρ' w' → Rel B M Z' ρ' s'.heap w' → ARel w' Z' ρ' s' a' → QE e a' w') → c.wpIn (FW rr) 0 P QE a w
/-- A call, from a heap. -/
def VCall (P : Program) (f : FuncId) (args : List VV) (H : Heap) (Q : VV → Heap → Prop) : Prop :=
  ∀ (B : World) (M Z : Nat → Prop) (ρ : Nat → Option (Nat × Nat)) (w : World) (ra : Array Value), Rel B M Z ρ H w → Pw (VRel w Z ρ) args ra.toList →
    Calls P f ra w (fun e w' => ∃ v' v H' Z' ρ', e = .returned v' ∧ Q v H' ∧ Ext (own B M) H.next Z ρ w H'.next Z' ρ' w' ∧ Rel B M Z' ρ' H' w' ∧ VRel w' Z' ρ' v v')
/-- A call of a loop's yield. -/
def VRound (P : Program) (l : Nat) (args : List VV) (H : Heap) (Q : VV → Heap → Prop) : Prop :=
  ∀ (B : World) (M Z : Nat → Prop) (ρ : Nat → Option (Nat × Nat)) (w : World) (ra : Array Value) (k N : Nat), ρ l = some (k, N) → Rel B M Z ρ H w → Pw (VRel w Z ρ) args ra.toList →
    ∃ fn tmps asg bd, (Instr.yield k ra).run P w = .ok (.round k fn tmps asg bd) w ∧
      RoundIn Fence.wide 0 P k fn tmps asg bd w (fun e w' => ∃ v' v H' Z' ρ', e = .returned v' ∧ Q v H' ∧ Ext (own B M) H.next Z ρ w H'.next Z' ρ' w' ∧ Rel B M Z' ρ' H' w' ∧ VRel w' Z' ρ' v v')
/-- One operation. -/
def VOne (P : Program) (o : Oper) (ts : List VV) (H : Heap) (Q : VV → Heap → Prop) : Prop :=
  ∀ (B : World) (M Z : Nat → Prop) (ρ : Nat → Option (Nat × Nat)) (a : Act) (w : World) (rr : Option Nat) (K : Act → World → Prop) (QE : Exit → Act → World → Prop), Rel B M Z ρ H w → Pw (VRel w Z ρ) ts a.tmps.toList →
    (∀ v' v H' Z' ρ' w', Q v H' → Ext (own B M) H.next Z ρ w H'.next Z' ρ' w' → Rel B M Z' ρ' H' w' → VRel w' Z' ρ' v v' → K (a.put o.dst v') w') → o.wpIn (FW rr) 0 P a w K QE
/-- Operations, one behind the other. -/
def VOps (P : Program) (ops : Array Oper) (l : List Nat) (Q : VSt → Prop) (s : VSt) : Prop :=
  ∀ (B : World) (M Z : Nat → Prop) (ρ : Nat → Option (Nat × Nat)) (a : Act) (w : World) (rr : Option Nat) (QE : Exit → Act → World → Prop), Rel B M Z ρ s.heap w → ARel w Z ρ s a →
    (∀ s' Z' ρ' a' w', Q s' → Ext (own B M) s.heap.next Z ρ w s'.heap.next Z' ρ' w' → Rel B M Z' ρ' s'.heap w' → ARel w' Z' ρ' s' a' → QE .normal a' w') → wpOpsIn (FW rr) 0 P ops QE l a w

section
variable {P : Program} {r : Option Nat} {Q Q' : Exit → VSt → Prop} {s : VSt}
theorem VWP.mono {c : Code} (h : VWP P r c Q s) (hq : ∀ e s', Q e s' → Q' e s') : VWP P r c Q' s := fun B M Z ρ a w rr QE h0 h1 h2 h3 => h B M Z ρ a w rr QE h0 h1 h2 (fun e s' Z' ρ' a' w' q => h3 e s' Z' ρ' a' w' (hq e s' q))
theorem VCall.mono {f : FuncId} {args : List VV} {H : Heap} {R R' : VV → Heap → Prop} (h : VCall P f args H R) (hq : ∀ v H', R v H' → R' v H') : VCall P f args H R' := fun B M Z ρ w ra h1 h2 =>
  (h B M Z ρ w ra h1 h2).mono fun e w' ⟨v', v, H', Z', ρ', g1, g2, g3⟩ => ⟨v', v, H', Z', ρ', g1, hq _ _ g2, g3⟩
theorem VOne.mono {o : Oper} {ts : List VV} {H : Heap} {R R' : VV → Heap → Prop} (h : VOne P o ts H R) (hq : ∀ v H', R v H' → R' v H') : VOne P o ts H R' := fun B M Z ρ a w rr K QE h1 h2 h3 =>
  h B M Z ρ a w rr K QE h1 h2 fun v' v H' Z' ρ' w' q => h3 v' v H' Z' ρ' w' (hq _ _ q)
theorem VWP.skip (h : Q .normal s) : VWP P r .skip Q s := fun B M Z ρ a w rr QE h0 h1 h2 h3 => wpIn_skip (h3 _ _ _ _ _ _ h (Ext.refl _ _ _ _) h1 h2)
theorem VWP.label {l : Nat} (h : Q .normal s) : VWP P r (.label l) Q s := fun B M Z ρ a w rr QE h0 h1 h2 h3 => wpIn_label (h3 _ _ _ _ _ _ h (Ext.refl _ _ _ _) h1 h2)
theorem VWP.exit {i : Nat} (h : Q (.exit i) s) : VWP P r (.exit i) Q s := fun B M Z ρ a w rr QE h0 h1 h2 h3 => wpIn_exit (h3 _ _ _ _ _ _ h (Ext.refl _ _ _ _) h1 h2)
theorem VWP.ret (h : Q .ret s) : VWP P r .ret Q s := fun B M Z ρ a w rr QE h0 h1 h2 h3 => wpIn_ret (h3 _ _ _ _ _ _ h (Ext.refl _ _ _ _) h1 h2)
/-- Behind the end of one piece the next. -/
def thenQ (K : VSt → Prop) (Q : Exit → VSt → Prop) : Exit → VSt → Prop
  | .normal, s => K s
  | e, s => Q e s
theorem VWP.seq {x y : Code} (h : VWP P r x (thenQ (VWP P r y Q) Q) s) : VWP P r (.seq x y) Q s := fun B M Z ρ a w rr QE h0 h1 h2 h3 => by
  refine wpIn_seq (h B M Z ρ a w rr _ h0 h1 h2 fun e s' Z' ρ' a' w' q e1 r1 a1 => ?_)
  cases e with
  | normal => exact q B M Z' ρ' a' w' rr QE (h0.ext e1) r1 a1 fun e s2 Z2 ρ2 a2 w2 q2 e2 => h3 e s2 Z2 ρ2 a2 w2 q2 (e1.trans e2)
  | _ => exact h3 _ _ _ _ _ _ q e1 r1 a1
theorem VWP.cond {c : Operand} {x y : Code} {t : Bool} (hc : veval s.tmps c = .sc (.bool t)) (h : VWP P r (if t then x else y) Q s) : VWP P r (.cond c x y) Q s := fun B M Z ρ a w rr QE h0 h1 h2 h3 => by
  have := veval_rel h2.tmps c
  rw [hc] at this
  generalize hce : a.eval c = u at this
  cases this
  exact wpIn_cond hce (h B M Z ρ a w rr QE h0 h1 h2 h3)
def blockQ (id : Nat) (Q : Exit → VSt → Prop) : Exit → VSt → Prop
  | .exit j, s => if j = id then Q .normal s else Q (.exit j) s
  | e, s => Q e s
theorem VWP.block {id : Nat} {c : Code} (h : VWP P r c (blockQ id Q) s) : VWP P r (.block id c) Q s := fun B M Z ρ a w rr QE h0 h1 h2 h3 => by
  refine wpIn_block (h B M Z ρ a w rr _ h0 h1 h2 fun e s' Z' ρ' a' w' q e1 r1 a1 => ?_)
  cases e with
  | exit j =>
    simp only [Exit.inBlock, blockQ] at q ⊢
    split
    · rename_i hj; rw [if_pos hj] at q; exact h3 _ _ _ _ _ _ q e1 r1 a1
    · rename_i hj; rw [if_neg hj] at q; exact h3 _ _ _ _ _ _ q e1 r1 a1
  | _ => exact h3 _ _ _ _ _ _ q e1 r1 a1
/-- A loop, by a relation and a measure. -/
theorem VWP.loop {c : Code} (I : VSt → Prop) (μ : VSt → Nat) (h0 : I s) (hr : ∀ s, I s → VWP P r c (thenQ (fun s' => I s' ∧ μ s' < μ s) Q) s) : VWP P r (.loop c) Q s := fun B M Z ρ a w rr QE g0 g1 g2 g3 => by
  have key : ∀ (m : Nat) (s1 : VSt) (Z1 : Nat → Prop) (ρ1 : Nat → Option (Nat × Nat)) (a1 : Act) (w1 : World), μ s1 < m → I s1 → Ext (own B M) s.heap.next Z ρ w s1.heap.next Z1 ρ1 w1 → Rel B M Z1 ρ1 s1.heap w1 → ARel w1 Z1 ρ1 s1 a1 → Code.roundsIn (FW rr) 0 P c QE m a1 w1 := by
    intro m
    induction m with
    | zero => intro s1 Z1 ρ1 a1 w1 hm; omega
    | succ m ih =>
      intro s1 Z1 ρ1 a1 w1 hm hI e1 r1 ar1
      rw [roundsIn_succ]
      refine hr s1 hI B M Z1 ρ1 a1 w1 rr _ (g0.ext e1) r1 ar1 fun e s2 Z2 ρ2 a2 w2 q e2 r2 ar2 => ?_
      cases e with
      | normal => exact ih s2 Z2 ρ2 a2 w2 (by have := q.2; omega) q.1 (e1.trans e2) r2 ar2
      | _ => exact g3 _ _ _ _ _ _ q (e1.trans e2) r2 ar2
  exact wpIn_loop_rounds (μ s + 1) (key _ s Z ρ a w (Nat.lt_succ_self _) h0 (Ext.refl _ _ _ _) g1 g2)
/-- A loop of so many rounds. -/
def VRounds (P : Program) (r : Option Nat) (c : Code) (Q : Exit → VSt → Prop) : Nat → VSt → Prop
  | 0, _ => False
  | m + 1, s => VWP P r c (thenQ (VRounds P r c Q m) Q) s
theorem VWP.rounds {c : Code} (m : Nat) (h : VRounds P r c Q m s) : VWP P r (.loop c) Q s := fun B M Z ρ a w rr QE g0 g1 g2 g3 => by
  have key : ∀ (m : Nat) (s1 : VSt) (Z1 : Nat → Prop) (ρ1 : Nat → Option (Nat × Nat)) (a1 : Act) (w1 : World), VRounds P r c Q m s1 → Ext (own B M) s.heap.next Z ρ w s1.heap.next Z1 ρ1 w1 → Rel B M Z1 ρ1 s1.heap w1 → ARel w1 Z1 ρ1 s1 a1 → Code.roundsIn (FW rr) 0 P c QE m a1 w1 := by
    intro m
    induction m with
    | zero => intro s1 Z1 ρ1 a1 w1 hm; exact hm.elim
    | succ m ih =>
      intro s1 Z1 ρ1 a1 w1 hm e1 r1 ar1
      rw [roundsIn_succ]
      refine hm B M Z1 ρ1 a1 w1 rr _ (g0.ext e1) r1 ar1 fun e s2 Z2 ρ2 a2 w2 q e2 r2 ar2 => ?_
      cases e with
      | normal => exact ih s2 Z2 ρ2 a2 w2 q (e1.trans e2) r2 ar2
      | _ => exact g3 _ _ _ _ _ _ q (e1.trans e2) r2 ar2
  exact wpIn_loop_rounds m (key _ s Z ρ a w h (Ext.refl _ _ _ _) g1 g2)

/-- The walk may forget: the state stands for less. -/
theorem VWP.weaken {c : Code} {s1 : VSt} (hm : s1.marks = s.marks) (hn : s1.heap.next = s.heap.next) (hg : ∀ b x, s1.heap.get b = some x → s.heap.get b = some x) (ht : ∀ w Z ρ cs, Pw (VRel w Z ρ) s.tmps cs → Pw (VRel w Z ρ) s1.tmps cs)
    (h : VWP P r c Q s1) : VWP P r c Q s := fun B M Z ρ a w rr QE g0 g1 g2 g3 =>
  h B M Z ρ a w rr QE g0 (g1.weaken hn hg) ⟨ht _ _ _ _ g2.tmps, hm ▸ g2.marks⟩ (fun e s' Z' ρ' a' w' q e1 => g3 e s' Z' ρ' a' w' q (hn ▸ e1))

/-! ### Operations -/
theorem FW_fn (rr : Option Nat) (f : FuncId) : (FW rr).fn f := trivial
theorem FW_depth (rr : Option Nat) : (FW rr).depth.isSome = true → 1 ≤ 0 := fun h => by cases h
theorem VOne.plain {o : Oper} {ts : List VV} {H H' : Heap} {v : VV} (hv : vop P o ts H = some (v, H')) : VOne P o ts H (fun x K => x = v ∧ K = H') := fun B M Z ρ a w rr K QE h1 h2 h3 => by
  have hnd : ∀ c, o.op ≠ .defer c := fun c e => by simp [vop, e] at hv
  obtain ⟨v', w', Z', ρ', hr, e1, r1, v1⟩ := vop_sound (P := P) (o := o) (a := a) h1 h2 hv
  refine ⟨fun f _ => FW_fn _ f, ?_⟩
  rw [Oper.semAt_eq _ _ _ hnd]
  have hk := h3 v' v H' Z' ρ' w' ⟨rfl, rfl⟩ e1 r1 v1
  rcases hr with hr | ⟨hr, rfl⟩
  · rw [hr]; exact hk
  · rw [hr]; exact hk
theorem VOne.call {o : Oper} {ts : List VV} {H : Heap} {R : VV → Heap → Prop} {f : Operand} {args : Array Operand} {ats : Array TypeId} (ho : o.op = .call ⟨.value f, args, ats⟩) {g : FuncId} {first capt : List VV} (hf : veval ts f = .fn (.func g) first capt)
    (he : Enters P g) (h : VCall P g (first ++ args.toList.map (veval ts) ++ capt) H R) : VOne P o ts H R := fun B M Z ρ a w rr K QE h1 h2 h3 => by
  have hnd : ∀ c, o.op ≠ .defer c := fun c e => by simp [ho] at e
  refine ⟨fun f _ => FW_fn _ f, ?_⟩
  rw [Oper.semAt_eq _ _ _ hnd]
  have hfr := veval_rel h2 f
  rw [hf] at hfr
  generalize hfe : a.eval f = u at hfr
  cases hfr with
  | @fn _ _ _ cs ds g1 r1 g2 r2 =>
    have hp : Pw (VRel w Z ρ) (first ++ args.toList.map (veval ts) ++ capt) (cs ++ args.map a.eval ++ ds).toList := by
      simp only [Array.toList_append, Array.toList_map]
      exact (Pw.append (Pw.append ⟨g1, r1⟩ (pw_evals h2 _)) ⟨g2, r2⟩)
    have hrun : (execOp a.eval o).run P w = .ok (.enter g (cs ++ args.map a.eval ++ ds)) w := by
      simp [execOp, ho, resolve, hfe, Deferred.ofValue, invoke, he (cs ++ args.map a.eval ++ ds) w]
      have := he (cs ++ args.map a.eval ++ ds) w
      simpa using this
    rw [hrun]
    refine ⟨FW_depth rr, callsIn_wide.2 ((h B M Z ρ w _ h1 hp).mono ?_)⟩
    rintro e w' ⟨v', v, H', Z', ρ', rfl, q, e1, r1, v1⟩
    exact h3 v' v H' Z' ρ' w' q e1 r1 v1
theorem VOne.round {o : Oper} {ts : List VV} {H : Heap} {R : VV → Heap → Prop} {f : Operand} {args : Array Operand} {ats : Array TypeId} (ho : o.op = .call ⟨.value f, args, ats⟩) {l : Nat} (hf : veval ts f = .yl l)
    (h : VRound P l (args.toList.map (veval ts)) H R) : VOne P o ts H R := fun B M Z ρ a w rr K QE h1 h2 h3 => by
  have hnd : ∀ c, o.op ≠ .defer c := fun c e => by simp [ho] at e
  refine ⟨fun f _ => FW_fn _ f, ?_⟩
  rw [Oper.semAt_eq _ _ _ hnd]
  have hfr := veval_rel h2 f
  rw [hf] at hfr
  generalize hfe : a.eval f = u at hfr
  cases hfr with
  | @yl _ k N hk =>
    obtain ⟨fn, tmps, asg, bd, hy, hR⟩ := h B M Z ρ w (args.map a.eval) k N hk h1 (by rw [Array.toList_map]; exact pw_evals h2 _)
    have hrun : (execOp a.eval o).run P w = .ok (.round k fn tmps asg bd) w := by
      have e2 : (#[] : Array Value) ++ args.map a.eval = args.map a.eval := by simp
      simp only [execOp, ho, resolve, hfe, Deferred.ofValue, Sem.run_bind, Sem.run_pure, Result.andThen_ok, invoke, e2, hy]
    rw [hrun]
    refine ⟨FW_depth rr, RoundIn.mono hR ?_⟩
    rintro e w' ⟨v', v, H', Z', ρ', rfl, q, e1, r1, v1⟩
    exact h3 v' v H' Z' ρ' w' q e1 r1 v1

/-- Is an operation carried out? -/
def vwanted (ops : Array Oper) (o : Oper) (ts : List VV) : Option Bool := match o.guard with
  | none => some true
  | some (j, want) => match (ops[j]?).bind (·.dst) with
    | none => some false
    | some d => match ts[d]? with
      | none => some false
      | some (.sc (.bool b)) => some (b == want)
      | some (.tp _) => some false
      | some _ => none
theorem vwanted_sound {ops : Array Oper} {o : Oper} {ts : List VV} {b : Bool} {w : World} {Z : Nat → Prop} {ρ : Nat → Option (Nat × Nat)} {cs : Array Value} (h : vwanted ops o ts = some b) (ht : Pw (VRel w Z ρ) ts cs.toList) : Region.wanted o (yielded ops cs) = b := by
  unfold vwanted at h
  unfold Region.wanted
  split at h
  · rename_i hg
    simp at h
    simp [hg, h]
  · rename_i j want hg
    simp only [hg]
    unfold yielded
    cases hd : (ops[j]?).bind (·.dst) with
    | none => simp [hd] at h; simp [h]
    | some d =>
      simp only [hd] at h
      simp only [Option.bind_some]
      cases hu : ts[d]? with
      | none =>
        simp [hu] at h
        have : cs[d]? = none := by
          have h1 := List.getElem?_eq_none_iff.1 hu
          have h2 := ht.1
          simp at h2
          exact Array.getElem?_eq_none (by omega)
        simp [this, h]
      | some u =>
        obtain ⟨c, hc, hr⟩ := ht.get hu
        have hc' : cs[d]? = some c := by simpa using hc
        simp only [hu] at h
        simp only [hc']
        cases u with
        | sc v =>
          cases hr
          cases c <;> first | (simp at h; done) | (simp at h; subst h; simp)
        | tp vs =>
          simp at h
          cases hr
          simp [h]
        | _ => simp at h
section
variable {ops : Array Oper} {l : List Nat} {R : VSt → Prop}
theorem VOps.mono {R' : VSt → Prop} (h : VOps P ops l R s) (hq : ∀ s', R s' → R' s') : VOps P ops l R' s := fun B M Z ρ a w rr QE h1 h2 h3 => h B M Z ρ a w rr QE h1 h2 (fun s' Z' ρ' a' w' q => h3 s' Z' ρ' a' w' (hq _ q))
theorem VOps.nil (h : R s) : VOps P ops [] R s := fun B M Z ρ a w rr QE h1 h2 h3 => h3 s Z ρ a w h (Ext.refl _ _ _ _) h1 h2
theorem VOps.step {i : Nat} {o : Oper} (hi : ops[i]? = some o) (hw : vwanted ops o s.tmps = some true) (h : VOne P o s.tmps s.heap (fun v H' => VOps P ops l R (s.put o.dst v H'))) : VOps P ops (i :: l) R s := fun B M Z ρ a w rr QE h1 h2 h3 => by
  rw [wpOpsIn_cons]
  unfold wpOpIn
  rw [hi]
  simp only [vwanted_sound hw h2.tmps, if_true]
  refine h B M Z ρ a w rr _ QE h1 h2.tmps fun v' v H' Z' ρ' w' q e1 r1 v1 => ?_
  have hh := VSt.heap_put s o.dst v H'
  exact q B M Z' ρ' _ w' rr QE (by rw [hh]; exact r1) ((h2.ext e1).put _ v1 _) fun s2 Z2 ρ2 a2 w2 q2 e2 => h3 s2 Z2 ρ2 a2 w2 q2 (e1.trans (by rw [hh] at e2; exact e2))
theorem VOps.pass {i : Nat} {o : Oper} (hi : ops[i]? = some o) (hw : vwanted ops o s.tmps = some false) (h : VOps P ops l R (s.put o.dst (.tp []) s.heap)) : VOps P ops (i :: l) R s := fun B M Z ρ a w rr QE h1 h2 h3 => by
  rw [wpOpsIn_cons]
  unfold wpOpIn
  rw [hi]
  simp only [vwanted_sound hw h2.tmps]
  have hh := VSt.heap_put s o.dst (.tp []) s.heap
  refine ⟨fun f _ => FW_fn _ f, h B M Z ρ _ w rr QE (by rw [hh]; exact h1) (h2.put _ VRel.undef _) fun s2 Z2 ρ2 a2 w2 q2 e2 => h3 s2 Z2 ρ2 a2 w2 q2 (by rw [hh] at e2; exact e2)⟩
theorem VWP.region {id : Nat} (h : VOps P ops (List.range ops.size) (Q .normal) s) : VWP P r (.region id ops false) Q s := fun B M Z ρ a w rr QE h0 h1 h2 h3 =>
  wpIn_region (h B M Z ρ a w rr QE h1 h2 fun s' Z' ρ' a' w' q e1 r1 a1 => h3 _ _ _ _ _ _ q e1 r1 a1)
end
end
end Go.Proofs.Ytbnemkdkeaiaoaa
