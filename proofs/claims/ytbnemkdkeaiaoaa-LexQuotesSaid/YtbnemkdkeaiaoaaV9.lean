/- Loops over functions in the walk; what is handed back, looked at as less; append. Over any program. -/
import Derived.Test.YtbnemkdkeaiaoaaV8
namespace Go.Proofs.Ytbnemkdkeaiaoaa
open Go Go.RowKit
set_option linter.unusedSimpArgs false
set_option linter.unusedVariables false
theorem GWP.range0 {P : Program} {Q : Exit → VSt → Prop} {s : VSt} {g : Operand} {ps : Array Tmp} {asg bd : Code} {gf : FuncId} {capt : List VV} (hg : veval s.tmps g = .fn (.func gf) [] capt) (he : enterB P gf = true)
    (h : VCall P gf (.yl (s.heap.next + 1) :: capt) ((s.heap.add .defs).add (.loop s.tmps ps.toList asg bd .ready none s.heap.next)) (fun _ H' => rangeQ (s.heap.next + 1) Q ⟨s.tmps, s.heap, s.heap.next :: s.marks⟩ H')) : GWP P none (.rangeFunc g ps asg bd) Q s := ⟨VWP.range0 hg (enterB_sound he) h⟩
theorem GWP.rangeIn {P : Program} {Q : Exit → VSt → Prop} {s : VSt} {g : Operand} {ps : Array Tmp} {asg bd asg0 bd0 : Code} {gf : FuncId} {capt ts0 : List VV} {l0 d0 : Nat} {ps0 : List Tmp} {st0 : LoopState} {pe0 : Option Code} (hg : veval s.tmps g = .fn (.func gf) [] capt) (he : enterB P gf = true)
    (hl0 : s.heap.get l0 = some (.loop ts0 ps0 asg0 bd0 st0 pe0 d0))
    (h : VCall P gf (.yl s.heap.next :: capt) (s.heap.add (.loop s.tmps ps.toList asg bd .ready none d0)) (fun _ H' => rangeQ s.heap.next Q s H')) : GWP P (some l0) (.rangeFunc g ps asg bd) Q s := ⟨VWP.rangeIn hg (enterB_sound he) hl0 h⟩
/-- The end of a round. -/
def roundG (l : Nat) (R : VV → Heap → Prop) : Exit → VSt → Prop := fun e s => match pendOf e with
  | some p => match s.heap.get l with
    | some (.loop tmps ps asg bd .busy pe d) => match s.marks with
      | [] => R (.sc (.bool p.isNone)) (s.heap.set l (.loop tmps ps asg bd (match p.isNone with | true => .ready | false => .done) p d))
      | _ => False
    | _ => False
  | none => False
theorem roundG_Q {l : Nat} {R : VV → Heap → Prop} {e : Exit} {s : VSt} (h : roundG l R e s) : roundQ l R e s := by
  unfold roundG at h
  split at h
  · rename_i p hp
    split at h
    · rename_i tmps ps asg bd pe d hl
      split at h
      · rename_i hm
        refine ⟨p, tmps, ps, asg, bd, pe, d, hp, hl, hm, ?_⟩
        cases p <;> exact h
      · exact h.elim
    · exact h.elim
  · exact h.elim
def asgG (P : Program) (l : Nat) (bd : Code) (R : VV → Heap → Prop) : Exit → VSt → Prop := fun e s => match e, s.marks with
  | .normal, [] => match s.heap.get l with
    | some (.loop tmps ps asg bd2 .ready pe d) => match s with
      | ⟨ts, H, _⟩ => wcode P (some l) bd (roundG l R) ⟨ts, H.set l (.loop tmps ps asg bd2 .busy pe d), []⟩
    | _ => False
  | _, _ => False
theorem VRound.go {P : Program} {l : Nat} {args tmps : List VV} {ps : List Tmp} {asg bd : Code} {pe : Option Code} {d : Nat} {H : Heap} {R : VV → Heap → Prop} (hl : H.get l = some (.loop tmps ps asg bd .ready pe d)) (hn : args.length = ps.length)
    (h : forceT (setParams tmps ps args) fun ts => wcode P (some l) asg (asgG P l bd R) ⟨ts, H, []⟩) : VRound P l args H R := by
  rw [forceT_eq] at h
  refine VRound.of hl hn ((wcode_sound h).mono fun e s1 q => ?_)
  unfold asgG at q
  split at q
  · rename_i hm
    split at q
    · rename_i tmps2 ps2 asg2 bd2 pe2 d2 hl2
      obtain ⟨ts, H2, m⟩ := s1
      dsimp only at q hm hl2
      exact ⟨rfl, hm, tmps2, ps2, asg2, bd2, pe2, d2, hl2, (wcode_sound q).mono fun _ _ q => roundG_Q q⟩
    · exact q.elim
  · exact q.elim
/-- What is handed back is looked at as less. -/
theorem VCall.post {P : Program} {f : FuncId} {args : List VV} {H : Heap} {Q Q' : VV → Heap → Prop} (h : VCall P f args H Q)
    (hq : ∀ v K, Q v K → ∃ u K', Q' u K' ∧ (∀ w Z ρ y, VRel w Z ρ v y → VRel w Z ρ u y) ∧ K.next ≤ K'.next ∧ ∀ b x, K'.get b = some x → K.get b = some x) : VCall P f args H Q' := fun B M Z ρ w ra h1 h2 =>
  (h B M Z ρ w ra h1 h2).mono fun e w' ⟨v', v, K, Z', ρ', he, q, e1, r1, v1⟩ => by
    obtain ⟨u, K', q1, q2, q3, q4⟩ := hq v K q
    exact ⟨v', u, K', Z', ρ', he, q1, ⟨Nat.le_trans e1.nle q3, e1.rold, e1.zsub, e1.rsub, e1.keep, e1.size, e1.znew⟩,
      ⟨r1.glob, r1.os, r1.tape, r1.output, r1.size, r1.frame, fun b hb => r1.dom b (Nat.le_trans q3 hb), fun b x hx => Nat.lt_of_lt_of_le (r1.live b x (q4 b x hx)) q3, fun b b' k N N' x x' hx hx' => r1.inj b b' k N N' x x' (q4 _ _ hx) (q4 _ _ hx'), fun b x hx => r1.obj b x (q4 _ _ hx), r1.zlt⟩, q2 _ _ _ _ v1⟩
/-- A body walked on the spot. -/
def bodyI (P : Program) (fn : Func) (R : VV → Heap → Prop) : Exit → VSt → Prop := fun e s => match e with
  | .normal => match vleave s.marks s.heap with
    | some H' => match vresAll P fn s.tmps H' with
      | some v => R v H'
      | none => False
    | none => False
  | .ret => match vleave s.marks s.heap with
    | some H' => match vresAll P fn s.tmps H' with
      | some v => R v H'
      | none => False
    | none => False
  | _ => False
theorem VCall.inl {P : Program} {f : FuncId} {fn : Func} {c : Code} {args : List VV} {H : Heap} {R : VV → Heap → Prop} (hf : P.funcs[f]? = some fn) (hb : fn.body = some c)
    (h : forceT (args ++ List.replicate (fn.ntmps - args.length) (.tp [])) fun ts => wcode P none c (bodyI P fn R) ⟨ts, H, []⟩) : VCall P f args H R := by
  rw [forceT_eq] at h
  refine VCall.body hf hb ((wcode_sound h).mono fun e s q => bodyG_Q ?_)
  have key : ∀ (o : Option Heap) (g : Heap → Option VV), (match o with | some H' => (match g H' with | some v => R v H' | none => False) | none => False) → (match o with | some H' => (match g H' with | some v => Done (R v H') | none => False) | none => False) := by
    intro o g h
    cases o with
    | none => exact h
    | some H' =>
      simp only at h ⊢
      generalize g H' = x at h ⊢
      cases x with
      | none => exact h
      | some v => exact ⟨h⟩
  cases e with
  | normal => exact key _ _ q
  | ret => exact key _ _ q
  | _ => exact q
/-- Names that are in use lie below the next one. -/
theorem VCall.live {P : Program} {f : FuncId} {args : List VV} {H : Heap} {Q : VV → Heap → Prop} (h : (∀ b x, H.get b = some x → b < H.next) → VCall P f args H Q) : VCall P f args H Q := fun B M Z ρ w ra h1 h2 => h h1.live B M Z ρ w ra h1 h2
theorem weak_nil {n : Nat} {w : World} {Z : Nat → Prop} {ρ : Nat → Option (Nat × Nat)} {y : Value} (h : VRel w Z ρ (.sc (.slice none 0 n)) y) : VRel w Z ρ (.ro 0 []) y := by
  cases h; exact .ro0
theorem weak_sl0 {b o z : Nat} {c : Option Nat} {w : World} {Z : Nat → Prop} {ρ : Nat → Option (Nat × Nat)} {y : Value} (h : VRel w Z ρ (.sl b o 0 c z) y) : VRel w Z ρ (.ro 0 []) y := by
  cases h; exact .ro0
/-- Freezing, for rows that name what is frozen, too. -/
theorem FrzL.pre {K : Heap} {B w : World} {Z : Nat → Prop} {ρ ρ2 : Nat → Option (Nat × Nat)} (hr : Rel B (fun _ => False) Z ρ K w) {vs us : List VV} (h : FrzL K vs us) : ∀ {cs : List Value}, Pw (VRel w Z ρ) vs cs → Pw (VRel w (fun k => Z k ∨ (B.heap.size ≤ k ∧ k < w.heap.size)) ρ2) us cs := by
  induction h with
  | nil => intro cs hp; exact ⟨hp.1, fun i u c hu => by simp at hu⟩
  | @cons v u r s hvu _ ih =>
    intro cs hp
    match cs, hp with
    | c :: ct, hp =>
      have h0 := hp.2 0 v c rfl rfl
      have ht : Pw (VRel w Z ρ) r ct := ⟨by have := hp.1; simpa using this, fun i u c hu hc => hp.2 (i + 1) u c (by simpa using hu) (by simpa using hc)⟩
      exact Pw.cons (hvu B w Z ρ ρ2 c hr h0) (ih ht)
    | [], hp => have := hp.1; simp at this
theorem Frz.ptr {K : Heap} {b o : Nat} {vs us : List VV} (hg : K.get b = some (.cells true vs)) (h : FrzL K vs us) : Frz K (.ptr b o) (.rp us o) := fun B w Z ρ ρ2 y hr hv => by
  cases hv with
  | ptr hk =>
    obtain ⟨ds, g1, g2, g3⟩ := hr.read hg hk 0 vs.length (by omega)
    rw [List.drop_zero, List.take_of_length_le (Nat.le_refl _)] at g1
    obtain ⟨k', N', x, q1, q2, q3, q4, q5⟩ := hr.objC hg rfl
    rw [hk] at q1
    injection q1 with q1
    injection q1 with q1 q1'
    subst q1 q1'
    have hnew := (q5 rfl).resolve_right id
    have hlt := hr.lt hg hk
    have hp := h.pre (ρ2 := ρ2) hr g1
    have key := VRel.rp (w := w) (Z := fun k => Z k ∨ (B.heap.size ≤ k ∧ k < w.heap.size)) (ρ := ρ2) (o := 0) (o' := o) (vs := us) (cs := ds) (.inr ⟨hnew, hlt⟩) hp.1 (fun i hi => by
      have := g3 i (ds[i]'hi) (List.getElem?_eq_getElem hi)
      rw [add_mk] at this
      rw [this, List.getElem?_eq_getElem hi]) hp.2
    rw [Nat.zero_add] at key
    exact key
theorem Frz.slL {K : Heap} {b o n z : Nat} {c : Option Nat} {vs us : List VV} (hg : K.get b = some (.cells true vs)) (hl : o + n * z ≤ vs.length) (h : FrzL K ((vs.drop o).take (n * z)) us) : Frz K (.sl b o n c z) (.ro n us) := fun B w Z ρ ρ2 y hr hv => by
  cases hv with
  | sl hk hcap hc hzz =>
    obtain ⟨ds, g1, g2, g3⟩ := hr.read hg hk o (n * z) hl
    obtain ⟨k', N', x, q1, q2, q3, q4, q5⟩ := hr.objC hg rfl
    rw [hk] at q1
    injection q1 with q1
    injection q1 with q1 q1'
    subst q1 q1'
    have hnew := (q5 rfl).resolve_right id
    have hlt := hr.lt hg hk
    have hp := h.pre (ρ2 := ρ2) hr g1
    exact .ro (cs := ds) (.inr ⟨hnew, hlt⟩) hcap hp.1 (fun i hi => by
      have := g3 i (ds[i]'hi) (List.getElem?_eq_getElem hi)
      rw [add_mk] at this
      rw [this, List.getElem?_eq_getElem hi]) hp.2
theorem Frz.fn {K : Heap} {f : Fn} {vs us vs' us' : List VV} (h : FrzL K vs vs') (g : FrzL K us us') : Frz K (.fn f vs us) (.fn f vs' us') := fun B w Z ρ ρ2 y hr hv => by
  cases hv with
  | @fn _ _ _ cs ds h1 r1 h2 r2 =>
    have a := h.pre (ρ2 := ρ2) hr ⟨h1, r1⟩
    have b := g.pre (ρ2 := ρ2) hr ⟨h2, r2⟩
    exact .fn a.1 a.2 b.1 b.2
theorem FrzL.of {K : Heap} : ∀ {vs : List VV}, (∀ v ∈ vs, Nameless v) → FrzL K vs vs
  | [], _ => .nil
  | v :: r, h => .cons (.of (h v (by simp))) (FrzL.of fun u hu => h u (by simp [hu]))
theorem nameless_rp {vs : List VV} {o : Nat} (h : ∀ v ∈ vs, Nameless v) : Nameless (.rp vs o) := fun w Z ρ ρ' y hr => by
  cases hr with
  | rp hZ hlen hcell hrel => exact .rp hZ hlen hcell fun i u c hu hc => h u (List.mem_of_getElem? hu) _ _ _ _ _ (hrel i u c hu hc)
theorem nameless_fn {f : Fn} {vs us : List VV} (h : ∀ v ∈ vs, Nameless v) (g : ∀ v ∈ us, Nameless v) : Nameless (.fn f vs us) := fun w Z ρ ρ' y hr => by
  cases hr with
  | fn h1 r1 h2 r2 => exact .fn h1 (fun i u c hu hc => h u (List.mem_of_getElem? hu) _ _ _ _ _ (r1 i u c hu hc)) h2 (fun i u c hu hc => g u (List.mem_of_getElem? hu) _ _ _ _ _ (r2 i u c hu hc))
theorem nameless_ag {vs : List VV} (h : ∀ v ∈ vs, Nameless v) : Nameless (.ag vs) := fun w Z ρ ρ' y hr => by
  cases hr with
  | ag h1 r1 => exact .ag h1 fun i u c hu hc => h u (List.mem_of_getElem? hu) _ _ _ _ _ (r1 i u c hu hc)
theorem nameless_strV (l : List UInt8) : Nameless (strV l) := nameless_sc _
/-- Strings that nobody writes. -/
def roS (l : List (List UInt8)) : VV := .ro l.length (l.map strV)
theorem nameless_map {α : Type} {f : α → VV} (h : ∀ a, Nameless (f a)) (l : List α) : ∀ v ∈ l.map f, Nameless v := fun v hv => by
  obtain ⟨a, _, rfl⟩ := List.mem_map.1 hv
  exact h a
theorem nameless_roS (l : List (List UInt8)) : Nameless (roS l) := nameless_ro (nameless_map nameless_strV l)
/-- A slice type, as append wants to know it. -/
structure SlTy (P : Program) (sT : TypeId) (z bytes : Nat) : Prop where
  out : ∃ e i zl, P.underlying sT = some (.slice e) ∧ P.info? e = some i ∧ i.size = z ∧ i.bytes = bytes ∧ vzero P e = some zl ∧ zl.length = z
theorem vapp_zero {P : Program} {sT xT : TypeId} {z bytes : Nat} (h : SlTy P sT z bytes) {d : TypeDesc} (hx : P.underlying xT = some d) (hd : ∀ k, d ≠ .int k) {s x : VV} {H : Heap} (hs : (∃ b n c z', s = .sl b 0 n c z') ∨ (∃ b o n c z', s = .sl b o n (some c) z') ∨ s = .sc (.slice none 0 0)) (hl : velems z x H = some (0, [])) : vappend P sT xT s x H = some (s, H) := by
  obtain ⟨e, i, zl, h1, h2, h3, h4, h5, h6⟩ := h
  subst h3
  have hb : Nat.beq zl.length i.size = true := by rw [h6]; exact Nat.beq_refl _
  simp only [vappend, h1, h2, h5, hl, hx, hb, List.all_nil, Bool.and_self]
  cases d with
  | int k => exact absurd rfl (hd k)
  | _ =>
    rcases hs with ⟨b, n, c, z', rfl⟩ | ⟨b, o, n, c, z', rfl⟩ | rfl <;> (try cases c) <;> simp [vappCase]
theorem vapp_nil' {P : Program} {sT xT : TypeId} {z bytes : Nat} (h : SlTy P sT z bytes) {d : TypeDesc} (hx : P.underlying xT = some d) (hd : ∀ k, d ≠ .int k) {x : VV} {H : Heap} {m : Nat} {l : List VV} (hl : velems z x H = some (m, l)) (h1 : l.all VV.one = true) (hm : ¬ m = 0) (hb : m * bytes ≤ 140737488355328) (hm2 : m ≤ 4611686018427387904) :
    vappend P sT xT (.sc (.slice none 0 0)) x H = some (.sl H.next 0 m none z, H.add (.cells true l)) := by
  obtain ⟨e, i, zl, g1, g2, g3, g4, g5, g6⟩ := h
  subst g3 g4
  have hbq : Nat.beq zl.length i.size = true := by rw [g6]; exact Nat.beq_refl _
  simp only [vappend, g1, g2, g5, hl, hx, hbq, h1, Bool.and_self]
  cases d with
  | int k => exact absurd rfl (hd k)
  | _ => simp only [vappCase, if_neg hm, if_pos (And.intro hb hm2)]
theorem vapp_full {P : Program} {sT xT : TypeId} {z bytes : Nat} (h : SlTy P sT z bytes) {d : TypeDesc} (hx : P.underlying xT = some d) (hd : ∀ k, d ≠ .int k) {x : VV} {H : Heap} {m b o n c z' : Nat} {rw : Bool} {l vs : List VV} (hl : velems z x H = some (m, l)) (h1 : l.all VV.one = true) (hg : H.get b = some (.cells rw vs)) (hc : c < n + m) (hn : n ≤ c) (hv : o + n * z ≤ vs.length) (hb : (n + m) * bytes ≤ 140737488355328) (hm2 : n + m ≤ 4611686018427387904) :
    vappend P sT xT (.sl b o n (some c) z') x H = some (.sl H.next 0 (n + m) none z, H.add (.cells true ((vs.drop o).take (n * z) ++ l))) := by
  obtain ⟨e, i, zl, g1, g2, g3, g4, g5, g6⟩ := h
  subst g3 g4
  have hbq : Nat.beq zl.length i.size = true := by rw [g6]; exact Nat.beq_refl _
  simp only [vappend, g1, g2, g5, hl, hx, hbq, h1, Bool.and_self]
  cases d with
  | int k => exact absurd rfl (hd k)
  | _ => simp only [vappCase, if_neg (show ¬ m = 0 by omega), hg, if_neg (show ¬ n + m ≤ c by omega), if_pos (And.intro hv (And.intro hb hm2))]
theorem vapp_grow {P : Program} {sT xT : TypeId} {z bytes : Nat} (h : SlTy P sT z bytes) {d : TypeDesc} (hx : P.underlying xT = some d) (hd : ∀ k, d ≠ .int k) {x : VV} {H : Heap} {m b n : Nat} {l vs : List VV} (hl : velems z x H = some (m, l)) (h1 : l.all VV.one = true) (hm : ¬ m = 0) (hg : H.get b = some (.cells true vs)) (hv : n * z ≤ vs.length) (hb : (n + m) * bytes ≤ 140737488355328) (hm2 : n + m ≤ 4611686018427387904) :
    vappend P sT xT (.sl b 0 n none z) x H = some (.sl H.next 0 (n + m) none z, (H.del b).add (.cells true (vs.take (n * z) ++ l))) := by
  obtain ⟨e, i, zl, g1, g2, g3, g4, g5, g6⟩ := h
  subst g3 g4
  have hbq : Nat.beq zl.length i.size = true := by rw [g6]; exact Nat.beq_refl _
  simp only [vappend, g1, g2, g5, hl, hx, hbq, h1, Bool.and_self]
  cases d with
  | int k => exact absurd rfl (hd k)
  | _ => simp only [vappCase, if_neg hm, hg, if_pos (And.intro trivial (And.intro hv (And.intro hb hm2))), true_and]; simp [hv, hb, hm2]
theorem vop_append {P : Program} {o : Oper} {ts : List VV} {H : Heap} {r : VV × Heap} {s x : Operand} {sT xT : TypeId} (ho : o.op = .call ⟨.builtin .append, #[s, x], #[sT, xT]⟩) (h : vappend P sT xT (veval ts s) (veval ts x) H = some r) : vop P o ts H = some r := by
  simp only [vop, ho, h]
theorem VOne.does {P : Program} {o : Oper} {ts : List VV} {H H' : Heap} {v : VV} (hnd : ∀ c, o.op ≠ .defer c)
    (h : ∀ (B : World) (M Z : Nat → Prop) (ρ : Nat → Option (Nat × Nat)) (av : Operand → Value) (w : World), Rel B M Z ρ H w → (∀ x, VRel w Z ρ (veval ts x) (av x)) → ∃ v' w' ρ', (execOp av o).run P w = .ok (.value v') w' ∧ Ext (own B M) H.next Z ρ w H'.next Z ρ' w' ∧ Rel B M Z ρ' H' w' ∧ VRel w' Z ρ' v v') : VOne P o ts H (fun x K => x = v ∧ K = H') := fun B M Z ρ a w rr K QE h1 h2 h3 => by
  refine ⟨fun f _ => FW_fn _ f, ?_⟩
  rw [Oper.semAt_eq _ _ _ hnd]
  obtain ⟨v', w', ρ', hr, e1, r1, hv⟩ := h B M Z ρ a.eval w h1 (fun x => veval_rel h2 x)
  rw [hr]
  exact h3 v' v H' Z ρ' w' ⟨rfl, rfl⟩ e1 r1 hv
/-- What is added to a slice that may be nil. -/
theorem GOp'.grow {P : Program} {o : Oper} {ts : List VV} {H : Heap} {K : VV → Heap → Prop} {s x : Operand} {sT xT : TypeId} {z bytes b n m : Nat} {d : TypeDesc} {l vs : List VV} (ho : o.op = .call ⟨.builtin .append, #[s, x], #[sT, xT]⟩) (h : SlTy P sT z bytes) (hx : P.underlying xT = some d) (hd : ∀ k, d ≠ .int k) (hs : veval ts s = .gs b n z) (hl : velems z (veval ts x) H = some (m, l)) (h1 : l.all VV.one = true)
    (hg : H.get b = some (.opt vs)) (hv : vs.length = n * z) (hb : (n + m) * bytes ≤ 140737488355328) (hm2 : n + m ≤ 4611686018427387904) (k : K (.gs H.next (n + m) z) ((H.del b).add (.opt (vs ++ l)))) : GOp' P o ts H K := ⟨⟨by
  obtain ⟨e, i, zl, g1, g2, g3, g4, g5, g6⟩ := h
  subst g3 g4
  refine (VOne.does (v := .gs H.next (n + m) i.size) (H' := (H.del b).add (.opt (vs ++ l))) (fun c e => by simp [ho] at e) fun B M Z ρ av w hr hav => ?_).mono fun x K' e => by rw [e.1, e.2]; exact k
  obtain ⟨v', w', ρ', q1, q2, q3, q4⟩ := vgrow_sound (ty := o.type) hr g1 g2 g5 hl g6 h1 hx hd (hs ▸ hav s) (hav x) hg hv hb hm2
  exact ⟨v', w', ρ', by simp [execOp, ho, resolve, invoke, builtin, q1], q2, q3, q4⟩⟩⟩
theorem del_set (H : Heap) (b : Nat) (x : VObj) : (H.set b x).del b = H.del b := by
  show Heap.mk _ _ = Heap.mk _ _
  rw [show (H.set b x).objs = hset H.objs b x from rfl, hdel_set]
  rfl
/-- The same, of a whole slice. -/
theorem GOp'.growS {P : Program} {o : Oper} {ts : List VV} {H : Heap} {K : VV → Heap → Prop} {s x : Operand} {sT xT : TypeId} {z bytes b n m : Nat} {d : TypeDesc} {l vs : List VV} (ho : o.op = .call ⟨.builtin .append, #[s, x], #[sT, xT]⟩) (h : SlTy P sT z bytes) (hx : P.underlying xT = some d) (hd : ∀ k, d ≠ .int k) (hs : veval ts s = .sl b 0 n (some n) z) (hl : velems z (veval ts x) (H.set b (.opt vs)) = some (m, l)) (h1 : l.all VV.one = true)
    (hg : H.get b = some (.cells true vs)) (hv : vs.length = n * z) (hb : (n + m) * bytes ≤ 140737488355328) (hm2 : n + m ≤ 4611686018427387904) (k : K (.gs H.next (n + m) z) ((H.del b).add (.opt (vs ++ l)))) : GOp' P o ts H K := ⟨⟨by
  obtain ⟨e, i, zl, g1, g2, g3, g4, g5, g6⟩ := h
  subst g3 g4
  refine (VOne.does (v := .gs H.next (n + m) i.size) (H' := (H.del b).add (.opt (vs ++ l))) (fun c e => by simp [ho] at e) fun B M Z ρ av w hr hav => ?_).mono fun x K' e => by rw [e.1, e.2]; exact k
  obtain ⟨r2, s2⟩ := gs_of_full hr (hs ▸ hav s) hg hv
  obtain ⟨v', w', ρ', q1, q2, q3, q4⟩ := vgrow_sound (ty := o.type) r2 g1 g2 g5 hl g6 h1 hx hd s2 (hav x) (by rw [Heap.get_set, if_pos rfl, hg]; rfl) hv hb hm2
  rw [del_set] at q2 q3
  exact ⟨v', w', ρ', by simp [execOp, ho, resolve, invoke, builtin, q1], q2, q3, q4⟩⟩⟩
/-- As many zeros behind a whole slice. -/
theorem GOp'.growSZ {P : Program} {o : Oper} {ts : List VV} {H : Heap} {K : VV → Heap → Prop} {s x : Operand} {sT xT : TypeId} {z bytes b n m : Nat} {kx kt : IntKind} {vs zl : List VV} {mz : Int} (ho : o.op = .call ⟨.builtin .append, #[s, x], #[sT, xT]⟩) (h : SlTy P sT z bytes) (hzl : ∀ e, P.underlying sT = some (.slice e) → vzero P e = some zl) (hx : P.underlying xT = some (.int kt)) (hs : veval ts s = .sl b 0 n (some n) z) (hl : veval ts x = .sc (.int kx mz)) (hmz : mz = (m : Int)) (h1 : (vzeros zl (m * z)).all VV.one = true)
    (hg : H.get b = some (.cells true vs)) (hv : vs.length = n * z) (hb : (n + m) * bytes ≤ 140737488355328) (hm2 : n + m ≤ 4611686018427387904) (k : K (.gs H.next (n + m) z) ((H.del b).add (.opt (vs ++ vzeros zl (m * z))))) : GOp' P o ts H K := ⟨⟨by
  subst hmz
  obtain ⟨e, i, zl', g1, g2, g3, g4, g5, g6⟩ := h
  subst g3 g4
  have := hzl e g1
  rw [g5] at this
  injection this with this
  subst this
  refine (VOne.does (v := .gs H.next (n + m) i.size) (H' := (H.del b).add (.opt (vs ++ vzeros zl' (m * i.size)))) (fun c e => by simp [ho] at e) fun B M Z ρ av w hr hav => ?_).mono fun x K' e => by rw [e.1, e.2]; exact k
  obtain ⟨r2, s2⟩ := gs_of_full hr (hs ▸ hav s) hg hv
  have hx' : av x = .int kx (m : Int) := sc_inv (hl ▸ hav x)
  obtain ⟨v', w', ρ', q1, q2, q3, q4⟩ := vgrowZ_sound (ty := o.type) (kx := kx) r2 g1 g2 g5 g6 h1 hx s2 (by rw [Heap.get_set, if_pos rfl, hg]; rfl) hv hb hm2
  rw [del_set] at q2 q3
  exact ⟨v', w', ρ', by simp [execOp, ho, resolve, invoke, builtin, hx', q1], q2, q3, q4⟩⟩⟩
/-- The same, of nil. -/
theorem GOp'.grow0 {P : Program} {o : Oper} {ts : List VV} {H : Heap} {K : VV → Heap → Prop} {s x : Operand} {sT xT : TypeId} {z bytes m : Nat} {d : TypeDesc} {l : List VV} (ho : o.op = .call ⟨.builtin .append, #[s, x], #[sT, xT]⟩) (h : SlTy P sT z bytes) (hx : P.underlying xT = some d) (hd : ∀ k, d ≠ .int k) (hs : veval ts s = .sc (.slice none 0 0) ∨ ∃ b, veval ts s = .sl b 0 0 (some 0) z) (hl : ∀ y, velems z (veval ts x) (H.add y) = some (m, l)) (h1 : l.all VV.one = true)
    (hb : m * bytes ≤ 140737488355328) (hm2 : m ≤ 4611686018427387904) (k : K (.gs (H.next + 1) m z) ⟨(H.next + 1, .opt l) :: H.objs, H.next + 2⟩) : GOp' P o ts H K := ⟨⟨by
  obtain ⟨e, i, zl, g1, g2, g3, g4, g5, g6⟩ := h
  subst g3 g4
  refine VOne.mono (R := fun x K' => x = .gs (H.next + 1) m i.size ∧ K' = ⟨(H.next + 1, .opt l) :: H.objs, H.next + 2⟩) (fun B M Z ρ a w rr K QE r1 r2 r3 => ?_) fun x K' e => by rw [e.1, e.2]; exact k
  have hnd : ∀ c, o.op ≠ .defer c := fun c e => by simp [ho] at e
  refine ⟨fun f _ => FW_fn _ f, ?_⟩
  rw [Oper.semAt_eq _ _ _ hnd]
  have hav := fun x => veval_rel r2 x
  have hs' : VRel w Z ρ (.gs H.next 0 i.size) (a.eval s) := by
    have := hav s
    rcases hs with hs | ⟨b, hs⟩
    · rw [hs] at this
      rw [sc_inv this]
      exact .gs0
    · rw [hs] at this
      generalize hy : a.eval s = y at this
      cases this with
      | sl h1 h2 h3 h4 =>
        have := h3 0 rfl
        subst this
        exact .gs0
  have hlive : ∀ c x, hget H.objs c = some x → c ≠ H.next := fun c x hx e => by
    have := r1.live c x hx
    omega
  obtain ⟨v', w', ρ', q1, q2, q3, q4⟩ := vgrow_sound (ty := o.type) r1.addGhost g1 g2 g5 (hl _) g6 h1 hx hd hs' (hav x) (by rw [Heap.get_add]; exact if_pos rfl) (by simp) (by rw [Nat.zero_add]; exact hb) (by omega)
  have hr : (execOp a.eval o).run P w = .ok (.value v') w' := by simp [execOp, ho, resolve, invoke, builtin, q1]
  rw [hr]
  rw [Nat.zero_add] at q4
  refine r3 v' _ _ Z ρ' w' ⟨rfl, rfl⟩ ⟨Nat.le_trans (Nat.le_succ _) q2.nle, fun b hb => q2.rold b (Nat.lt_succ_of_lt hb), q2.zsub, q2.rsub, q2.keep, q2.size, q2.znew⟩ (q3.weaken rfl fun b x hx => ?_) q4
  simp only [Heap.get, hget_cons] at hx
  rw [Heap.get_add, Heap.get_del]
  show (if H.next + 1 = b then _ else _) = _
  split at hx
  · rename_i e
    rw [if_pos e, ← hx]
    rfl
  · rename_i e
    have hne := hlive b x hx
    rw [if_neg e, if_neg (fun q => hne q.symm), Heap.get_add, if_neg (fun q => hne q.symm)]
    exact hx⟩⟩
theorem VRel.gsRo {H : Heap} {B w : World} {M Z Z2 : Nat → Prop} {ρ ρ2 : Nat → Option (Nat × Nat)} {b n z : Nat} {vs : List VV} {y : Value} (hr : Rel B M Z ρ H w) (hg : H.get b = some (.opt vs)) (hl : vs.length = n * z) (hv : VRel w Z ρ (.gs b n z) y) (hz : ∀ k N, ρ b = some (k, N) → Z2 k) (hn : ∀ v ∈ vs, ∀ y, VRel w Z ρ v y → VRel w Z2 ρ2 v y) : VRel w Z2 ρ2 (.ro n vs) y := by
  cases hv with
  | gs0 =>
    obtain rfl : vs = [] := List.eq_nil_of_length_eq_zero (by simpa using hl)
    exact .ro0
  | gs hk hcap hzz h0 =>
    have hb2 : (H.set b (.cells true vs)).get b = some (.cells true vs) := by rw [Heap.get_set, if_pos rfl, hg]; rfl
    obtain ⟨ds, g1, g2, g3⟩ := (hr.toCells hg hk).read hb2 hk 0 vs.length (by omega)
    rw [List.drop_zero, List.take_of_length_le (Nat.le_refl _)] at g1
    refine .ro (cs := ds) (hz _ _ hk) hcap g1.1 (fun i hi => ?_) (fun i u c2 hu hc2 => ?_)
    · have := g3 i (ds[i]'hi) (List.getElem?_eq_getElem hi)
      rw [add_mk] at this
      rw [this, List.getElem?_eq_getElem hi]
    · exact hn u (List.mem_of_getElem? hu) _ (g1.2 i u c2 hu hc2)
theorem Frz.gs {K : Heap} {b n z : Nat} {vs : List VV} (hg : K.get b = some (.opt vs)) (hl : vs.length = n * z) (hn : ∀ v ∈ vs, Nameless v) : Frz K (.gs b n z) (.ro n vs) := fun B w Z ρ ρ2 y hr hv =>
  VRel.gsRo hr hg hl hv (fun k N hk => by
    obtain ⟨k', N', x, q1, q2, q3, q4, q5⟩ := hr.objK hg hk
    rw [hk] at q1; injection q1 with q1; injection q1 with q1 q1'; subst q1
    exact .inr ⟨(q5 rfl).resolve_right id, hr.lt hg hk⟩) (fun v hv y h => (hn v hv _ _ _ _ _ h).zmono fun _ h => .inl h)
theorem Frx.gs {K : Heap} {b n z : Nat} {vs : List VV} (hg : K.get b = some (.opt vs)) (hl : vs.length = n * z) (hn : ∀ v ∈ vs, Exact v) : Frx K (.gs b n z) (.ro n vs) := fun B w Z ρ ρ2 y hr hv =>
  VRel.gsRo hr hg hl hv (fun k N hk => by
    obtain ⟨k', N', x, q1, q2, q3, q4, q5⟩ := hr.objK hg hk
    rw [hk] at q1; injection q1 with q1; injection q1 with q1 q1'; subst q1
    exact ⟨(q5 rfl).resolve_right id, hr.lt hg hk⟩) (fun v hv y h => hn v hv _ _ _ _ _ _ _ h)
theorem View.gs {H : Heap} {b n z : Nat} {vs : List VV} (hg : H.get b = some (.opt vs)) (hl : vs.length = n * z) (hn : ∀ v ∈ vs, Nameless v) : View H (.gs b n z) (.ro n vs) := fun B w M Z ρ y hr hv =>
  VRel.gsRo hr hg hl hv (fun k N hk => hr.lt hg hk) (fun v hv y h => (hn v hv _ _ _ _ _ h).zmono hr.zlt)
theorem Frz.gsL {K : Heap} {b n z : Nat} {vs us : List VV} (hg : K.get b = some (.opt vs)) (hl : vs.length = n * z) (h : FrzL K vs us) : Frz K (.gs b n z) (.ro n us) := fun B w Z ρ ρ2 y hr hv => by
  cases hv with
  | gs0 =>
    obtain rfl : vs = [] := List.eq_nil_of_length_eq_zero (by simpa using hl)
    cases h
    exact .ro0
  | gs hk hcap hzz h0 =>
    have hb2 : (K.set b (.cells true vs)).get b = some (.cells true vs) := by rw [Heap.get_set, if_pos rfl, hg]; rfl
    obtain ⟨ds, g1, g2, g3⟩ := (hr.toCells hg hk).read hb2 hk 0 vs.length (by omega)
    rw [List.drop_zero, List.take_of_length_le (Nat.le_refl _)] at g1
    obtain ⟨k', N', x, q1, q2, q3, q4, q5⟩ := hr.objK hg hk
    rw [hk] at q1
    injection q1 with q1
    injection q1 with q1 q1'
    subst q1 q1'
    have hnew := (q5 rfl).resolve_right id
    have hlt := hr.lt hg hk
    have hp := h.pre (ρ2 := ρ2) hr g1
    exact .ro (cs := ds) (.inr ⟨hnew, hlt⟩) hcap hp.1 (fun i hi => by
      have := g3 i (ds[i]'hi) (List.getElem?_eq_getElem hi)
      rw [add_mk] at this
      rw [this, List.getElem?_eq_getElem hi]) hp.2
/-- A call that is told on the empty heap, of values that name nothing. -/
theorem VCall.pure {P : Program} {f : FuncId} {args : List VV} {H : Heap} {u : VV} (ha : ∀ v ∈ args, Nameless v) (hu : Nameless u) (h : VCall P f args ⟨[], 0⟩ (fun v _ => v = u)) : VCall P f args H (fun v K => v = u ∧ K = H) :=
  VCall.frozen ha h (fun v K e => by subst e; exact Frz.of hu)
theorem ORel.zmono {w : World} {Z Z' : Nat → Prop} {ρ : Nat → Option (Nat × Nat)} {N : Nat} {x : VObj} {o : Obj} (h : ORel w Z ρ N x o) (hz : ∀ k, Z k → Z' k) : ORel w Z' ρ N x o := by
  cases x with
  | cells rw vs =>
    obtain ⟨cs, t, fr, h0, h4, h2, h3⟩ := h
    exact ⟨cs, t, fr, h0, h4, fun i u hu => let ⟨c, hc, hr⟩ := h2 i u hu; ⟨c, hc, hr.zmono hz⟩, h3⟩
  | loop tmps ps asg bd st pe d =>
    obtain ⟨fn, ts, D, h0, h1, h2⟩ := h
    exact ⟨fn, ts, D, h0, h1.mono fun _ _ h => h.zmono hz, h2⟩
  | defs => exact h
  | gone => trivial
  | raw t vs n => exact h
  | opt vs =>
    obtain ⟨cs, t, fr, h0, h4, h2, h3⟩ := h
    exact ⟨cs, t, fr, h0, h4, fun i u hu => let ⟨c, hc, hr⟩ := h2 i u hu; ⟨c, hc, hr.zmono hz⟩, h3⟩
/-- A new block, taken as one that nobody writes any more. -/
theorem Rel.freeze {B w : World} {M Z : Nat → Prop} {ρ : Nat → Option (Nat × Nat)} {objs : List (Nat × VObj)} {nm nx k N : Nat} {vs : List VV} (h : Rel B M Z ρ ⟨(nm, .cells true vs) :: objs, nx⟩ w) (hk : ρ nm = some (k, N)) (hnm : ∀ b x, hget objs b = some x → b ≠ nm) :
    Rel B M (fun j => Z j ∨ j = k) ρ ⟨objs, nx⟩ w := by
  have hg : (⟨(nm, .cells true vs) :: objs, nx⟩ : Heap).get nm = some (.cells true vs) := by simp [Heap.get, hget_cons]
  have hsub : ∀ b x, (⟨objs, nx⟩ : Heap).get b = some x → (⟨(nm, .cells true vs) :: objs, nx⟩ : Heap).get b = some x := fun b x hx => by
    have := hnm b x hx
    simp only [Heap.get] at hx ⊢
    rw [hget_cons, if_neg (fun e => this e.symm)]
    exact hx
  refine ⟨h.glob, h.os, h.tape, h.output, h.size, h.frame, h.dom, fun b x hx => h.live b x (hsub b x hx), fun b b' q N N' x x' hx hx' => h.inj b b' q N N' x x' (hsub _ _ hx) (hsub _ _ hx'), fun b x hx => ?_, fun j hj => ?_⟩
  · rcases h.obj b x (hsub b x hx) with hg | ⟨q, N', o, h1, h2, h3, h4, h5⟩
    · exact .inl hg
    refine .inr ⟨q, N', o, h1, h2, h3.zmono fun _ h => .inl h, fun hz => ?_, h5⟩
    rcases hz with hz | rfl
    · exact h4 hz
    · exact hnm b x hx (h.inj b nm q N' N x _ (hsub b x hx) hg h1 hk)
  · rcases hj with hj | rfl
    · exact h.zlt j hj
    · exact h.lt hg hk
/-- What an operation makes, taken at once as rows that nobody writes. -/
theorem VOne.fresh {P : Program} {o : Oper} {ts : List VV} {H : Heap} {n z : Nat} {c : Option Nat} {vs : List VV} (hrw : AllRw H) (h : vop P o ts H = some (.sl H.next 0 n c z, H.add (.cells true vs))) (hn : n * z ≤ vs.length) (hv : ∀ v ∈ vs, Nameless v) :
    VOne P o ts H (fun v K => v = .ro n (vs.take (n * z)) ∧ K = ⟨H.objs, H.next + 1⟩) := fun B M Z ρ a w rr KK QE h1 h2 h3 => by
  refine VOne.plain h w (Mine H ρ) Z ρ a w rr KK QE (h1.part rfl fun _ _ h => h) h2 ?_
  rintro v' v H' Z' ρ' w' ⟨rfl, rfl⟩ e1 r1 v1
  have hkeep : AllRw (H.add (.cells true vs)) := fun b x hx => by
    rw [Heap.get_add] at hx
    split at hx
    · injection hx with hx; subst hx; rfl
    · exact hrw b x hx
  obtain ⟨e2, r2⟩ := h1.whole (F := []) rfl (fun _ _ h => h) (fun b x hx => by simp [hget] at hx) ⟨fun b x hx => by simp [hget] at hx⟩ e1 r1 hkeep ⟨fun b x hx => by simp [hget] at hx⟩
  rw [List.append_nil] at r2
  have hg : (H.add (.cells true vs)).get H.next = some (.cells true vs) := by rw [Heap.get_add, if_pos rfl]
  cases v1 with
  | @sl _ _ _ k N c' _ _ hk hcap hc hzz =>
    have hnm : ∀ b x, hget H.objs b = some x → b ≠ H.next := fun b x hx e => by
      have := h1.live b x hx
      omega
    have hnew : w.heap.size ≤ k := by
      obtain ⟨k', N', o', q1, q2, q3, q4, q5⟩ := r1.objC hg rfl
      rw [hk] at q1; injection q1 with q1; injection q1 with q1 q1'; subst q1
      refine (q5 rfl).resolve_right fun ⟨b, x, N2, m1, m2, m3⟩ => ?_
      have hb := h1.live b x m1
      have hb' : (H.add (.cells true vs)).get b = some x := by rw [Heap.get_add, if_neg (by omega)]; exact m1
      have := r1.inj b H.next k N2 N x _ hb' hg (e1.rsub _ _ m3) hk
      omega
    have r3 := Rel.freeze (objs := H.objs) (nx := H.next + 1) (nm := H.next) r2 hk hnm
    refine h3 _ _ _ (fun j => Z' j ∨ j = k) ρ' w' ⟨rfl, rfl⟩ ⟨e2.nle, e2.rold, fun j hj => .inl (e2.zsub j hj), e2.rsub, e2.keep, e2.size, fun j hj => ?_⟩ r3 ?_
    · rcases hj with hj | rfl
      · exact e2.znew j hj
      · exact .inr (.inl hnew)
    · obtain ⟨ds, g1, g2, g3⟩ := r1.read hg hk 0 (n * z) (by omega)
      rw [List.drop_zero] at g1
      refine .ro (cs := ds) (.inr rfl) hcap g1.1 (fun i hi => ?_) (fun i u c2 hu hc2 => ?_)
      · have := g3 i (ds[i]'hi) (List.getElem?_eq_getElem hi)
        rw [add_mk] at this
        rw [this, List.getElem?_eq_getElem hi]
      · have hm : u ∈ vs := List.mem_of_mem_take (List.mem_of_getElem? hu)
        exact (hv u hm _ _ _ _ _ (g1.2 i u c2 hu hc2)).zmono fun _ h => .inl h
theorem GOp'.fresh {P : Program} {o : Oper} {ts : List VV} {H : Heap} {K : VV → Heap → Prop} {n z : Nat} {c : Option Nat} {vs us : List VV} (hrw : AllRw H) (h : vop P o ts H = some (.sl H.next 0 n c z, H.add (.cells true vs))) (hn : n * z ≤ vs.length) (hv : ∀ v ∈ vs, Nameless v) (e : vs.take (n * z) = us)
    (k : K (.ro n us) ⟨H.objs, H.next + 1⟩) : GOp' P o ts H K := ⟨⟨(VOne.fresh hrw h hn hv).mono fun x K' e2 => by rw [e2.1, e2.2, e]; exact k⟩⟩
theorem allRw_of {H : Heap} (h : (H.objs.all fun p => p.2.rw) = true) : AllRw H := fun b x hx => by
  have key : ∀ (l : List (Nat × VObj)), (l.all fun p => p.2.rw) = true → hget l b = some x → x.rw = true := by
    intro l
    induction l with
    | nil => intro _ h; simp [hget] at h
    | cons p r ih =>
      obtain ⟨k, y⟩ := p
      intro h1 h2
      simp only [List.all_cons, Bool.and_eq_true] at h1
      rw [hget_cons] at h2
      split at h2
      · injection h2 with h2; subst h2; exact h1.1
      · exact ih h1.2 h2
  exact key _ h hx
theorem Rel.bump {B w : World} {M Z : Nat → Prop} {ρ : Nat → Option (Nat × Nat)} {H : Heap} (h : Rel B M Z ρ H w) {n : Nat} (hn : H.next ≤ n) : Rel B M Z ρ ⟨H.objs, n⟩ w :=
  ⟨h.glob, h.os, h.tape, h.output, h.size, h.frame, fun b hb => h.dom b (Nat.le_trans hn hb), fun b x hx => Nat.lt_of_lt_of_le (h.live b x hx) hn, h.inj, h.obj, h.zlt⟩
theorem GOp'.weak {P : Program} {o : Oper} {ts : List VV} {H H' : Heap} {v u : VV} {n : Nat} {K : VV → Heap → Prop} (h : vop P o ts H = some (v, H')) (hw : ∀ w Z ρ y, VRel w Z ρ v y → VRel w Z ρ u y) (hn : H'.next ≤ n) (k : K u ⟨H'.objs, n⟩) : GOp' P o ts H K := ⟨⟨fun B M Z ρ a w rr KK QE h1 h2 h3 => VOne.plain h B M Z ρ a w rr KK QE h1 h2 fun v' v2 H2 Z' ρ' w' e e1 r1 v1 => by
  obtain ⟨rfl, rfl⟩ := e
  exact h3 v' u _ Z' ρ' w' k ⟨Nat.le_trans e1.nle hn, e1.rold, e1.zsub, e1.rsub, e1.keep, e1.size, e1.znew⟩ (r1.bump hn) (hw _ _ _ _ v1)⟩⟩
end Go.Proofs.Ytbnemkdkeaiaoaa
