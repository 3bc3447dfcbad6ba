/- The walk's rules for bodies of functions, rounds, loops over functions, and calls by a contract. Over any program. -/
import Derived.Test.YtbnemkdkeaiaoaaVt
namespace Go.Proofs.Ytbnemkdkeaiaoaa
open Go Go.RowKit
set_option linter.unusedSimpArgs false
set_option linter.unusedVariables false

def vresult (P : Program) (ts : List VV) (H : Heap) : ResultVar → Option VV
  | .tmp t => some ((ts[t]?).getD (.tp []))
  | .cell a t => vload P t ((ts[a]?).getD (.tp [])) H
def vresults (P : Program) (ts : List VV) (H : Heap) : List ResultVar → Option (List VV)
  | [] => some []
  | x :: r => match vresult P ts H x, vresults P ts H r with
    | some v, some l => some (v :: l)
    | _, _ => none
def vresAll (P : Program) (fn : Func) (ts : List VV) (H : Heap) : Option VV := match vresults P ts H fn.results.toList with
  | some [v] => some v
  | some l => some (.tp l)
  | none => none
/-- The blocks for deferred calls, taken. -/
def vleave : List Nat → Heap → Option Heap
  | [], H => some H
  | d :: r, H => match H.get d with
    | some .defs => vleave r (H.del d)
    | _ => none
section
variable {P : Program} {B : World} {M : Nat → Prop} {Z : Nat → Prop} {ρ : Nat → Option (Nat × Nat)} {w : World} {H : Heap}
/-- One result, as the model reads it. -/
def resSem (cs : Array Value) : ResultVar → Sem Value
  | .tmp t => pure (cs.getD t undef)
  | .cell a t => do loadVar t (← asAddr (cs.getD a undef))
theorem run_result (h : Rel B M Z ρ H w) {ts : List VV} {cs : Array Value} (ht : Pw (VRel w Z ρ) ts cs.toList) {x : ResultVar} {v : VV} (hv : vresult P ts H x = some v) :
    ∃ v', (resSem cs x).run P w = .ok v' w ∧ VRel w Z ρ v v' := by
  have hget : ∀ t, VRel w Z ρ ((ts[t]?).getD (.tp [])) (cs.getD t undef) := fun t => veval_rel (a := ⟨cs, []⟩) ht (.tmp t)
  cases x with
  | tmp t =>
    simp [vresult] at hv
    subst hv
    exact ⟨_, rfl, hget t⟩
  | cell a t =>
    simp only [vresult] at hv
    obtain ⟨v', ad, h0, h1, h2⟩ := vload_run (P := P) h (hget a) hv
    exact ⟨v', by simp [resSem, h0, asAddr, h1], h2⟩
theorem run_results (h : Rel B M Z ρ H w) {ts : List VV} {cs : Array Value} (ht : Pw (VRel w Z ρ) ts cs.toList) : ∀ {rs : List ResultVar} {l : List VV}, vresults P ts H rs = some l →
    ∃ vs, (rs.mapM (resSem cs)).run P w = .ok vs w ∧ Pw (VRel w Z ρ) l vs
  | [], l, hv => by simp [vresults] at hv; subst hv; exact ⟨[], rfl, Pw.nil⟩
  | x :: r, l, hv => by
    simp only [vresults] at hv
    split at hv
    · rename_i v l' h1 h2
      simp at hv
      subst hv
      obtain ⟨v', g1, g2⟩ := run_result h ht h1
      obtain ⟨vs, g3, g4⟩ := run_results h ht h2
      refine ⟨v' :: vs, ?_, Pw.cons g2 g4⟩
      rw [List.mapM_cons]
      simp only [Sem.run_bind, g1, g3, Result.andThen_ok, Sem.run_pure]
    · simp at hv
theorem results_eq (fn : Func) (cs : Array Value) : results fn cs = (do
    let vs ← fn.results.mapM (resSem cs)
    pure (if h : vs.size = 1 then vs[0] else .tuple vs)) := by
  unfold results
  congr 1
theorem run_resAll (h : Rel B M Z ρ H w) {fn : Func} {ts : List VV} {cs : Array Value} (ht : Pw (VRel w Z ρ) ts cs.toList) {v : VV} (hv : vresAll P fn ts H = some v) : ∃ v', (results fn cs).run P w = .ok v' w ∧ VRel w Z ρ v v' := by
  have gen : ∀ {l : List VV}, vresults P ts H fn.results.toList = some l → ∃ vs : List Value, (fn.results.mapM (resSem cs)).run P w = .ok vs.toArray w ∧ Pw (VRel w Z ρ) l vs := fun hl => by
    obtain ⟨vs, g1, g2⟩ := run_results h ht hl
    exact ⟨vs, by rw [Array.mapM_eq_mapM_toList]; simp [g1], g2⟩
  unfold vresAll at hv
  rw [results_eq]
  split at hv
  · rename_i u hu
    simp at hv
    subst hv
    obtain ⟨vs, g1, g2⟩ := gen hu
    have hl := g2.1
    obtain ⟨x, rfl⟩ : ∃ x, vs = [x] := List.length_eq_one_iff.1 hl.symm
    refine ⟨x, ?_, g2.2 0 u x rfl rfl⟩
    simp only [Sem.run_bind, g1, Result.andThen_ok, Sem.run_pure]
    rfl
  · rename_i l hne hu
    simp at hv
    subst hv
    obtain ⟨vs, g1, g2⟩ := gen hu
    have hl := g2.1
    have hn : ¬ (vs.toArray.size = 1) := by
      intro e
      simp at e
      obtain ⟨x, rfl⟩ := List.length_eq_one_iff.1 (hl.trans e)
      exact hne x rfl
    refine ⟨.tuple vs.toArray, ?_, .tp' (by simpa using g2)⟩
    simp only [Sem.run_bind, g1, Result.andThen_ok, Sem.run_pure]
    rw [dif_neg hn]
  · simp at hv

/-- An object that is no cells, turned. -/
theorem Rel.putObj (h : Rel B M Z ρ H w) {b k N : Nat} {x y : VObj} {o : Obj} (hx : H.get b = some x) (hk : ρ b = some (k, N)) (hrw : x.rw = true) (hy : y.rw = true) (hr : ∀ w', Ext (own B M) 0 Z ρ w 0 Z ρ w' → ORel w' Z ρ N y o) :
    Ext (own B M) H.next Z ρ w (H.set b y).next Z ρ (w.putObj k o) ∧ Rel B M Z ρ (H.set b y) (w.putObj k o) := by
  obtain ⟨k', N', o', h1, h2, h3, h4, h5⟩ := h.objK hx hk
  rw [hk] at h1; injection h1 with h1; injection h1 with h1 h1'; subst h1 h1'
  have hlt := h.lt hx hk
  refine h.turn hx hk hrw hy rfl rfl rfl World.putObj_size (fun j hj => World.putObj_heap_other hj) (World.putObj_heap_same hlt) (hr _ ⟨Nat.le_refl _, fun _ _ => rfl, fun _ h => h, fun _ _ h => h, fun j hj => ?_, by simp, fun _ h => .inl h⟩)
  exact World.putObj_heap_other (fun e => h4 (e ▸ hj))
theorem del_of_set {b : Nat} {y : VObj} (h : Rel B M Z ρ (H.set b y) w) : Rel B M Z ρ (H.del b) w := by
  refine h.weaken (H' := H.del b) rfl fun c x hx => ?_
  rw [Heap.get_del] at hx
  rw [Heap.get_set]
  split at hx
  · cases hx
  · rename_i hne; rw [if_neg hne]; exact hx
theorem leave_sound {fn : Func} {tmps : Array Value} {R : Ending → World → Prop} {H' : Heap} : ∀ {marks : List Nat} {ds : List Deferred} {H : Heap} {w : World} {ρ : Nat → Option (Nat × Nat)} {Z : Nat → Prop}, DRel ρ marks ds → Rel B M Z ρ H w → vleave marks H = some H' →
    (∀ w', Ext (own B M) H.next Z ρ w H'.next Z ρ w' → Rel B M Z ρ H' w' → ∃ v, (results fn tmps).run P w' = .ok v w' ∧ R (.returned v) w') → LeavesInM Fence.wide 0 P fn tmps R ds .returning w
  | [], [], H, w, ρ, Z, _, h, hv, hk => by
    simp [vleave] at hv
    subst hv
    exact hk w (Ext.refl _ _ _ _) h
  | d :: r, x :: s, H, w, ρ, Z, ⟨⟨D, N, hd, ht⟩, hm⟩, h, hv, hk => by
    simp only [vleave] at hv
    split at hv
    · rename_i hg
      obtain ⟨k', N', o', h1, h2, h3, h4, h5⟩ := h.objC hg rfl
      rw [hd] at h1; injection h1 with h1; injection h1 with h1 h1'; subst h1 h1'
      have h3' : o' = .deferred (some []) := h3
      subst h3'
      obtain ⟨e1, r1⟩ := h.putObj (y := .gone) (o := .deferred none) hg hd rfl rfl (fun _ _ => trivial)
      have r2 := del_of_set r1
      refine ⟨by simp, .inl ⟨D, _, ht, run_takeDeferred h2, ?_⟩⟩
      exact leave_sound (hm.ext e1) r2 hv fun w' e2 r3 => hk w' (Ext.trans (n' := H.next) e1 e2) r3
    · simp at hv
  | [], _ :: _, _, _, _, _, h, _, _, _ => h.elim
  | _ :: _, [], _, _, _, _, h, _, _, _ => h.elim
end

section
variable {P : Program} {s : VSt} {H : Heap}
/-- How a body may end. -/
def bodyQ (P : Program) (fn : Func) (R : VV → Heap → Prop) (e : Exit) (s : VSt) : Prop :=
  (e = .normal ∨ e = .ret) ∧ ∃ H' v, vleave s.marks s.heap = some H' ∧ vresAll P fn s.tmps H' = some v ∧ R v H'
theorem VCall.body {f : FuncId} {fn : Func} {c : Code} {args : List VV} {R : VV → Heap → Prop} (hf : P.funcs[f]? = some fn) (hb : fn.body = some c)
    (h : VWP P none c (bodyQ P fn R) ⟨args ++ List.replicate (fn.ntmps - args.length) (.tp []), H, []⟩) : VCall P f args H R := fun B M Z ρ w ra h1 h2 => by
  refine callsIn_wide.1 (callsIn_of_wp_marks (n := 0) hf hb trivial ?_)
  have hlen : ra.size = args.length := by have := h2.1; simp at this; omega
  have hp : Pw (VRel w Z ρ) (args ++ List.replicate (fn.ntmps - args.length) (.tp [])) (ra ++ Array.replicate (fn.ntmps - ra.size) undef).toList := by
    rw [Array.toList_append, Array.toList_replicate, hlen]
    exact h2.append (Pw.replicate VRel.undef _)
  refine h B M Z ρ ⟨_, []⟩ w none _ trivial h1 ⟨hp, trivial⟩ ?_
  rintro e s' Z' ρ' a' w' ⟨he, H', v, q1, q2, q3⟩ e1 r1 a1
  have key : LeavesInM Fence.wide 0 P fn a'.tmps (fun e w' => ∃ v' v H' Z' ρ', e = .returned v' ∧ R v H' ∧ Ext (own B M) H.next Z ρ w H'.next Z' ρ' w' ∧ Rel B M Z' ρ' H' w' ∧ VRel w' Z' ρ' v v') a'.defers .returning w' := by
    refine leave_sound a1.marks r1 q1 fun w2 e2 r2 => ?_
    obtain ⟨v', g1, g2⟩ := run_resAll (P := P) (fn := fn) r2 (a1.tmps.mono fun _ _ hh => hh.ext e2) q2
    exact ⟨v', g1, v', v, H', Z', ρ', rfl, q3, e1.trans e2, r2, g2⟩
  rcases he with rfl | rfl
  · exact key
  · exact key

/-- The temporaries of a round. -/
def setParams : List VV → List Tmp → List VV → List VV
  | ts, p :: ps, v :: vs => setParams (ts.set p v) ps vs
  | ts, _, _ => ts
theorem setParams_rel {R : VV → Value → Prop} : ∀ {ps : List Tmp} {vs : List VV} {xs : List Value} {ts : List VV} {cs : Array Value}, Pw R vs xs → Pw R ts cs.toList →
    Pw R (setParams ts ps vs) ((ps.zip xs).foldl (fun tmps (t, a) => tmps.setIfInBounds t a) cs).toList
  | [], vs, xs, ts, cs, _, h => by simpa [setParams] using h
  | p :: ps, [], [], ts, cs, _, h => by simpa [setParams] using h
  | p :: ps, v :: vs, x :: xs, ts, cs, hv, h => by
    simp only [setParams, List.zip_cons_cons, List.foldl_cons]
    refine setParams_rel ⟨by have := hv.1; simpa using this, fun i u c hu hc => hv.2 (i + 1) u c (by simpa using hu) (by simpa using hc)⟩ ?_
    rw [Array.toList_setIfInBounds]
    exact h.set p (hv.2 0 v x rfl rfl)
  | _ :: _, [], _ :: _, _, _, hv, _ => by have := hv.1; simp at this
  | _ :: _, _ :: _, [], _, _, hv, _ => by have := hv.1; simp at this
/-- The jump that a round has left. -/
def pendOf : Exit → Option (Option Code)
  | .normal => some none
  | .ret => some (some .ret)
  | .exit i => some (some (.exit i))
  | .goto t => some (some (.goto t))
  | _ => none
/-- How a round may end: the record is busy; it is ready again, or done. -/
def roundQ (l : Nat) (R : VV → Heap → Prop) (e : Exit) (s : VSt) : Prop :=
  ∃ p tmps ps asg bd pe d, pendOf e = some p ∧ s.heap.get l = some (.loop tmps ps asg bd .busy pe d) ∧ s.marks = [] ∧ R (.sc (.bool p.isNone)) (s.heap.set l (.loop tmps ps asg bd (if p.isNone then .ready else .done) p d))
theorem VRound.of {l : Nat} {args tmps : List VV} {ps : List Tmp} {asg bd : Code} {pe : Option Code} {d : Nat} {R : VV → Heap → Prop} (hl : H.get l = some (.loop tmps ps asg bd .ready pe d)) (hn : args.length = ps.length)
    (h : VWP P (some l) asg (fun e s1 => e = .normal ∧ s1.marks = [] ∧ ∃ tmps ps asg' bd' pe d, s1.heap.get l = some (.loop tmps ps asg' bd' .ready pe d) ∧ VWP P (some l) bd (roundQ l R) ⟨s1.tmps, s1.heap.set l (.loop tmps ps asg' bd' .busy pe d), []⟩) ⟨setParams tmps ps args, H, []⟩) :
    VRound P l args H R := fun B M Z ρ w ra k N hk h1 h2 => by
  obtain ⟨k', N', o', g1, g2, g3, g4, g5⟩ := h1.objC hl rfl
  rw [hk] at g1; injection g1 with g1; injection g1 with g1 g1'; subst g1 g1'
  obtain ⟨fn, ts, D, rfl, g6, N2, g7⟩ := g3
  have hsz : ra.size = ps.toArray.size := by have := h2.1; simp at this ⊢; omega
  refine ⟨_, _, _, _, run_yield g2 hsz, ?_⟩
  refine roundIn_of_wpIn (F := Fence.wide) trivial ?_
  have hp : Pw (VRel w Z ρ) (setParams tmps ps args) ((ps.toArray.zip ra).foldl (fun tmps (t, a) => tmps.setIfInBounds t a) ts).toList := by
    have := setParams_rel (ps := ps) h2 g6
    rw [← Array.foldl_toList, Array.toList_zip]
    simpa using this
  refine h B M Z ρ ⟨_, []⟩ w (some k) _ ⟨N, hk⟩ h1 ⟨hp, trivial⟩ ?_
  rintro e s1 Z1 ρ1 a1 w1 ⟨rfl, hm1, tmps1, ps1, asg1, bd1, pe1, d1, hl1, hb⟩ e1 r1 ar1
  have hk1 := e1.rsub _ _ hk
  obtain ⟨k', N', o', f1, f2, f3, f4, f5⟩ := r1.objC hl1 rfl
  rw [hk1] at f1; injection f1 with f1; injection f1 with f1 f1'; subst f1 f1'
  obtain ⟨fn1, ts1, D1, rfl, f6, N3, f7⟩ := f3
  obtain ⟨e2, r2⟩ := r1.putObj (y := .loop tmps1 ps1 asg1 bd1 .busy pe1 d1) (o := .loop { state := .busy, pending := pe1, fn := fn1, tmps := ts1, params := ps1.toArray, assign := asg1, body := bd1, defers := D1 }) hl1 hk1 rfl rfl
    (fun w' ee => ⟨fn1, ts1, D1, rfl, f6.mono fun _ _ hh => hh.ext ee, N3, f7⟩)
  refine ⟨_, run_beginRound f2 rfl, ?_⟩
  have ha1 : a1.defers = [] := by
    have := ar1.marks
    rw [hm1] at this
    cases hd : a1.defers with
    | nil => rfl
    | cons x y => rw [hd] at this; exact this.elim
  refine hb B M Z1 ρ1 a1 _ (some k) _ ⟨N, hk1⟩ r2 ⟨ar1.tmps.mono fun _ _ hh => hh.ext e2, by rw [ha1]; trivial⟩ ?_
  rintro e s2 Z2 ρ2 a2 w2 ⟨p, tmps2, ps2, asg2, bd2, pe2, d2, hpe, hl2, hm2, hR⟩ e3 r3 ar3
  have hk2 := e3.rsub _ _ hk1
  obtain ⟨k', N', o', q1, q2, q3, q4, q5⟩ := r3.objC hl2 rfl
  rw [hk2] at q1; injection q1 with q1; injection q1 with q1 q1'; subst q1 q1'
  obtain ⟨fn2, ts2, D2, rfl, q6, N4, q7⟩ := q3
  obtain ⟨e4, r4⟩ := r3.putObj (y := .loop tmps2 ps2 asg2 bd2 (if p.isNone then .ready else .done) p d2) (o := .loop { state := if p.isNone then .ready else .done, pending := p, fn := fn2, tmps := ts2, params := ps2.toArray, assign := asg2, body := bd2, defers := D2 }) hl2 hk2 rfl rfl
    (fun w' ee => ⟨fn2, ts2, D2, rfl, q6.mono fun _ _ hh => hh.ext ee, N4, q7⟩)
  have hend := run_endRound (P := P) (l := k) p q2
  have fin : ∃ v' v H' Z' ρ', Ending.returned (.bool p.isNone) = .returned v' ∧ R v H' ∧ Ext (own B M) H.next Z ρ w H'.next Z' ρ' (w2.putObj k (.loop { state := if p.isNone then .ready else .done, pending := p, fn := fn2, tmps := ts2, params := ps2.toArray, assign := asg2, body := bd2, defers := D2 })) ∧ Rel B M Z' ρ' H' (w2.putObj k (.loop { state := if p.isNone then .ready else .done, pending := p, fn := fn2, tmps := ts2, params := ps2.toArray, assign := asg2, body := bd2, defers := D2 })) ∧ VRel (w2.putObj k (.loop { state := if p.isNone then .ready else .done, pending := p, fn := fn2, tmps := ts2, params := ps2.toArray, assign := asg2, body := bd2, defers := D2 })) Z' ρ' v v' :=
    ⟨_, _, _, Z2, ρ2, rfl, hR, (e1.trans (e2.trans (e3.trans e4))), r4, .sc rfl⟩
  cases e with
  | normal => simp [pendOf] at hpe; subst hpe; exact ⟨_, _, hend, fin⟩
  | ret => simp [pendOf] at hpe; subst hpe; exact ⟨_, _, hend, fin⟩
  | exit i => simp [pendOf] at hpe; subst hpe; exact ⟨_, _, hend, fin⟩
  | goto t => simp [pendOf] at hpe; subst hpe; exact ⟨_, _, hend, fin⟩
  | _ => simp [pendOf] at hpe

/-- What is done with the jump that a round has left. -/
def jumpQ (Q : Exit → VSt → Prop) (s : VSt) : Option Code → Prop
  | none => Q .normal s
  | some .ret => Q .ret s
  | some (.exit i) => Q (.exit i) s
  | some (.goto t) => Q (.goto t) s
  | _ => False
/-- Behind the call of the function that is ranged over: the record, no longer busy, is let go; the jump that a round has left is taken up. -/
def rangeQ (l : Nat) (Q : Exit → VSt → Prop) (s : VSt) (H' : Heap) : Prop :=
  ∃ tmps ps asg bd st pe d, H'.get l = some (.loop tmps ps asg bd st pe d) ∧ st ≠ .busy ∧ jumpQ Q ⟨s.tmps, H'.del l, s.marks⟩ pe
theorem range_behind {P : Program} {B : World} {M Z : Nat → Prop} {ρ : Nat → Option (Nat × Nat)} {w : World} {H' : Heap} {l k N : Nat} {Q : Exit → VSt → Prop} {s : VSt} {rr : Option Nat} {QE : Exit → Act → World → Prop} {a : Act} (h : Rel B M Z ρ H' w) (hk : ρ l = some (k, N)) (ha : ARel w Z ρ s a)
    (hq : rangeQ l Q s H') (hc : ∀ e s' w', Q e s' → Ext (own B M) H'.next Z ρ w s'.heap.next Z ρ w' → Rel B M Z ρ s'.heap w' → ARel w' Z ρ s' a → QE e a w') : ∃ jump w4, (Instr.endLoop k).run P w = .ok jump w4 ∧ (match jump with | none => QE .normal a w4 | some c => c.wpIn (FW rr) 0 P QE a w4) := by
  obtain ⟨tmps, ps, asg, bd, st, pe, d, hl, hst, hj⟩ := hq
  obtain ⟨k', N', o', q1, q2, q3, q4, q5⟩ := h.objC hl rfl
  rw [hk] at q1; injection q1 with q1; injection q1 with q1 q1'; subst q1 q1'
  obtain ⟨fn2, ts2, D2, rfl, q6, N4, q7⟩ := q3
  have hend := run_endLoop (P := P) q2 hst
  obtain ⟨e1, r1⟩ := h.putObj (y := .gone) (o := .loop { state := .exhausted, pending := pe, fn := fn2, tmps := ts2, params := ps.toArray, assign := asg, body := bd, defers := D2 }) hl hk rfl rfl (fun _ _ => trivial)
  have r2 := del_of_set r1
  have ha2 : ARel (w.putObj k (.loop { state := .exhausted, pending := pe, fn := fn2, tmps := ts2, params := ps.toArray, assign := asg, body := bd, defers := D2 })) Z ρ ⟨s.tmps, H'.del l, s.marks⟩ a := ⟨ha.tmps.mono fun _ _ hh => hh.ext e1, ha.marks⟩
  refine ⟨_, _, hend, ?_⟩
  simp only
  unfold jumpQ at hj
  split at hj
  · exact hc _ _ _ hj e1 r2 ha2
  · exact wpIn_ret (hc _ _ _ hj e1 r2 ha2)
  · exact wpIn_exit (hc _ _ _ hj e1 r2 ha2)
  · exact wpIn_goto (hc _ _ _ hj e1 r2 ha2)
  · exact hj.elim
/-- A loop over a function, not within a round of another one. -/
theorem VWP.range0 {P : Program} {Q : Exit → VSt → Prop} {s : VSt} {g : Operand} {ps : Array Tmp} {asg bd : Code} {gf : FuncId} {capt : List VV} (hg : veval s.tmps g = .fn (.func gf) [] capt) (he : Enters P gf)
    (h : VCall P gf (.yl (s.heap.next + 1) :: capt) ((s.heap.add .defs).add (.loop s.tmps ps.toList asg bd .ready none s.heap.next)) (fun _ H' => rangeQ (s.heap.next + 1) Q ⟨s.tmps, s.heap, s.heap.next :: s.marks⟩ H')) : VWP P none (.rangeFunc g ps asg bd) Q s := fun B M Z ρ a w rr QE h0 h1 h2 h3 => by
  obtain rfl : rr = none := by cases rr with | none => rfl | some _ => exact h0.elim
  refine wpIn_rangeFunc fun fn _ => ?_
  have hfr := veval_rel h2.tmps g
  rw [hg] at hfr
  generalize hfe : a.eval g = u at hfr
  cases hfr with
  | @fn _ _ _ cs ds g1 r1 g2 r2 =>
    obtain rfl : cs = #[] := by
      have : cs.toList = [] := List.eq_nil_of_length_eq_zero g1.symm
      simpa using this
    obtain ⟨e1, q1⟩ := h1.alloc .defs (.deferred (some [])) 0 rfl
    have e1s : (w.alloc (.deferred (some []))).heap.size = w.heap.size + 1 := by simp
    obtain ⟨e2, q2⟩ := q1.alloc (.loop s.tmps ps.toList asg bd .ready none s.heap.next) (.loop { state := .ready, pending := none, fn, tmps := a.tmps, params := ps, assign := asg, body := bd, defers := w.heap.size }) 0
      ⟨fn, a.tmps, w.heap.size, by simp, h2.tmps.mono fun _ _ hh => hh.ext e1, 0, upd_self _ _⟩
    have hkl : (upd (upd ρ s.heap.next (w.heap.size, 0)) (s.heap.add .defs).next ((w.alloc (.deferred (some []))).heap.size, 0)) (s.heap.next + 1) = some (w.heap.size + 1, 0) := by
      rw [e1s]; exact upd_self _ _
    have e12 := e1.trans e2
    refine ⟨_, _, _, ⟨.fn (.func gf) ds, #[] ++ #[.func (.yield (w.heap.size + 1)) #[] #[]]⟩, ((w.alloc (.deferred (some []))).alloc (.loop { state := .ready, pending := none, fn, tmps := a.tmps, params := ps, assign := asg, body := bd, defers := w.heap.size })), gf, #[] ++ #[.func (.yield (w.heap.size + 1)) #[] #[]] ++ ds, ((w.alloc (.deferred (some []))).alloc (.loop { state := .ready, pending := none, fn, tmps := a.tmps, params := ps, assign := asg, body := bd, defers := w.heap.size })), run_enterLoop_outer fn a.tmps ps asg bd, ?_, fun _ _ => trivial, ?_, FW_depth _, ?_⟩
    · simp only [resolve, rangeCall, hfe, Deferred.ofValue, Sem.run_pure]
      simp [Act.eval]
    · simp only [invoke, he _ _]
    · have hp : Pw (VRel ((w.alloc (.deferred (some []))).alloc (.loop { state := .ready, pending := none, fn, tmps := a.tmps, params := ps, assign := asg, body := bd, defers := w.heap.size })) Z (upd (upd ρ s.heap.next (w.heap.size, 0)) (s.heap.add .defs).next ((w.alloc (.deferred (some []))).heap.size, 0)))
          (.yl (s.heap.next + 1) :: capt) (#[] ++ #[Value.func (.yield (w.heap.size + 1)) #[] #[]] ++ ds).toList := by
        simp only [Array.toList_append, List.nil_append]
        exact Pw.cons (.yl hkl) ⟨g2, fun i u c hu hc => (r2 i u c hu hc).ext e12⟩
      refine callsIn_wide.2 ((h B M Z _ _ _ q2 hp).mono ?_)
      rintro e w' ⟨v', v, H', Z', ρ', rfl, hq, e3, r3, v3⟩
      refine range_behind r3 (e3.rsub _ _ hkl) (s := ⟨s.tmps, s.heap, s.heap.next :: s.marks⟩) ⟨h2.tmps.mono fun _ _ hh => (hh.ext e12).ext e3, ?_⟩ hq fun e s' w4 qq e4 r4 a4 => h3 e s' Z' ρ' _ w4 qq (e12.trans (e3.trans e4)) r4 a4
      exact ⟨⟨w.heap.size, 0, (e2.trans e3).rsub _ _ (upd_self _ _), rfl⟩, (h2.marks.ext e12).ext e3⟩
/-- A loop over a function within a round of another one. -/
theorem VWP.rangeIn {P : Program} {Q : Exit → VSt → Prop} {s : VSt} {g : Operand} {ps : Array Tmp} {asg bd asg0 bd0 : Code} {gf : FuncId} {capt ts0 : List VV} {l0 d0 : Nat} {ps0 : List Tmp} {st0 : LoopState} {pe0 : Option Code} (hg : veval s.tmps g = .fn (.func gf) [] capt) (he : Enters P gf)
    (hl0 : s.heap.get l0 = some (.loop ts0 ps0 asg0 bd0 st0 pe0 d0))
    (h : VCall P gf (.yl s.heap.next :: capt) (s.heap.add (.loop s.tmps ps.toList asg bd .ready none d0)) (fun _ H' => rangeQ s.heap.next Q s H')) : VWP P (some l0) (.rangeFunc g ps asg bd) Q s := fun B M Z ρ a w rr QE h0 h1 h2 h3 => by
  obtain ⟨k0, rfl, N0, hk0⟩ : ∃ k0, rr = some k0 ∧ ∃ N0, ρ l0 = some (k0, N0) := by
    cases rr with
    | none => exact h0.elim
    | some k => obtain ⟨N, hN⟩ := h0; exact ⟨k, rfl, N, hN⟩
  refine wpIn_rangeFunc fun fn _ => ?_
  have hfr := veval_rel h2.tmps g
  rw [hg] at hfr
  generalize hfe : a.eval g = u at hfr
  cases hfr with
  | @fn _ _ _ cs ds g1 r1 g2 r2 =>
    obtain rfl : cs = #[] := by
      have : cs.toList = [] := List.eq_nil_of_length_eq_zero g1.symm
      simpa using this
    obtain ⟨k', N', o', p1, p2, p3, p4, p5⟩ := h1.objC hl0 rfl
    rw [hk0] at p1; injection p1 with p1; injection p1 with p1 p1'; subst p1 p1'
    obtain ⟨fn0, ts00, D0, rfl, p6, N3, p7⟩ := p3
    obtain ⟨e2, q2⟩ := h1.alloc (.loop s.tmps ps.toList asg bd .ready none d0) (.loop { state := .ready, pending := none, fn, tmps := a.tmps, params := ps, assign := asg, body := bd, defers := D0 }) 0
      ⟨fn, a.tmps, D0, by simp, h2.tmps, N3, p7⟩
    refine ⟨_, _, _, ⟨.fn (.func gf) ds, #[] ++ #[.func (.yield w.heap.size) #[] #[]]⟩, (w.alloc (.loop { state := .ready, pending := none, fn, tmps := a.tmps, params := ps, assign := asg, body := bd, defers := D0 })), gf, #[] ++ #[.func (.yield w.heap.size) #[] #[]] ++ ds, (w.alloc (.loop { state := .ready, pending := none, fn, tmps := a.tmps, params := ps, assign := asg, body := bd, defers := D0 })), run_enterLoop_inner p2 fn a.tmps ps asg bd, ?_, fun _ _ => trivial, ?_, FW_depth _, ?_⟩
    · simp only [resolve, rangeCall, hfe, Deferred.ofValue, Sem.run_pure]
      simp [Act.eval]
    · simp only [invoke, he _ _]
    · have hp : Pw (VRel (w.alloc (.loop { state := .ready, pending := none, fn, tmps := a.tmps, params := ps, assign := asg, body := bd, defers := D0 })) Z (upd ρ s.heap.next (w.heap.size, 0)))
          (.yl s.heap.next :: capt) (#[] ++ #[Value.func (.yield w.heap.size) #[] #[]] ++ ds).toList := by
        simp only [Array.toList_append, List.nil_append]
        exact Pw.cons (.yl (upd_self _ _)) ⟨g2, fun i u c hu hc => (r2 i u c hu hc).ext e2⟩
      refine callsIn_wide.2 ((h B M Z _ _ _ q2 hp).mono ?_)
      rintro e w' ⟨v', v, H', Z', ρ', rfl, hq, e3, r3, v3⟩
      refine range_behind r3 (e3.rsub _ _ (upd_self _ _)) (s := s) ⟨h2.tmps.mono fun _ _ hh => (hh.ext e2).ext e3, (h2.marks.ext e2).ext e3⟩ hq fun e s' w4 qq e4 r4 a4 => h3 e s' Z' ρ' _ w4 qq (e2.trans (e3.trans e4)) r4 a4
end
end Go.Proofs.Ytbnemkdkeaiaoaa
