/- One operation of the walk: all kinds but calls of functions. Over any program. -/
import Derived.Test.YtbnemkdkeaiaoaaVr
namespace Go.Proofs.Ytbnemkdkeaiaoaa
open Go Go.RowKit
set_option linter.unusedSimpArgs false
set_option linter.unusedVariables false

/-- Is it surely not nil? -/
def nonNil : VV → Bool
  | .ptr _ _ | .rp _ _ | .sl _ _ _ _ _ | .fn _ _ _ | .yl _ | .ifc _ _ => true
  | .ro (_ + 1) _ => true
  | _ => false
def isNilV : VV → Bool
  | .sc (.pointer none) | .sc (.slice none _ _) | .sc .nilFunc | .sc .nilIface => true
  | _ => false
/-- What may be held against nil: a pointer, a slice, a function, an interface value. -/
def nilKind (P : Program) (t : TypeId) (x y : VV) : Bool := match P.underlying t, x, y with
  | some (.pointer _), .ptr _ _, .sc (.pointer none) | some (.pointer _), .rp _ _, .sc (.pointer none) | some (.pointer _), .sc (.pointer none), .ptr _ _ | some (.pointer _), .sc (.pointer none), .rp _ _ => true
  | some (.slice _), .sl _ _ _ _ _, .sc (.slice none _ _) | some (.slice _), .sc (.slice none _ _), .sl _ _ _ _ _ => true
  | some (.func _ _ _), .fn _ _ _, .sc .nilFunc | some (.func _ _ _), .yl _, .sc .nilFunc | some (.func _ _ _), .sc .nilFunc, .fn _ _ _ | some (.func _ _ _), .sc .nilFunc, .yl _ => true
  | some (.interface _), .ifc _ _, .sc .nilIface | some (.interface _), .sc .nilIface, .ifc _ _ => true
  | _, _, _ => false
def vnilEq (P : Program) (op : BinOp) (t : TypeId) (x y : VV) : Option VV := match nilKind P t x y with
  | true => match op with
    | .eql => some (.sc (.bool false))
    | .neq => some (.sc (.bool true))
    | _ => none
  | false => none
section
variable {P : Program} {B : World} {M : Nat → Prop} {Z : Nat → Prop} {ρ : Nat → Option (Nat × Nat)} {w : World} {H : Heap}
theorem vnilEq_sound (h : Rel B M Z ρ H w) {op : BinOp} {t : TypeId} {x y v : VV} {x' y' : Value} {ox oy : Operand} (hx : VRel w Z ρ x x') (hy : VRel w Z ρ y y') (hv : vnilEq P op t x y = some v) :
    Does P B M H.next Z ρ w (do eqGuard op t ox oy x' y'; binOp op t x' y') v H := by
  unfold vnilEq at hv
  split at hv
  · rename_i hk
    have key : (Op.equal t x' y').run P w = .ok false w ∧ ((eqGuard op t ox oy x' y').run P w = .ok () w) ∧ (op = .eql → binOp op t x' y' = (do pure (.bool (← Op.equal t x' y')))) ∧ (op = .neq → binOp op t x' y' = (do pure (.bool (!(← Op.equal t x' y'))))) := by
      unfold nilKind at hk
      split at hk <;> first
        | (simp at hk; done)
        | (rename_i hu; cases hx; cases hy; refine ⟨(fun d => by simp [Op.equalIn, run_underlying hu] : ∀ d : Nat, (Op.equalIn (d + 1) t _ _).run P w = .ok false w) 9999, ?_, ?_, ?_⟩
           · unfold eqGuard; split <;> rfl
           · rintro rfl; rfl
           · rintro rfl; rfl)
    obtain ⟨k1, k2, k3, k4⟩ := key
    split at hv
    · simp at hv
      subst hv
      exact Does.same h (v' := .bool false) (by simp [k2, k3 rfl, k1]) (.sc rfl)
    · simp at hv
      subst hv
      exact Does.same h (v' := .bool true) (by simp [k2, k4 rfl, k1]) (.sc rfl)
    · simp at hv
  · simp at hv
end

/-- First the one, or else the other. -/
def orE {α : Type} : Option α → Option α → Option α
  | some a, _ => some a
  | none, b => b
def keepH (H : Heap) : Option VV → Option (VV × Heap)
  | some v => some (v, H)
  | none => none
def vop (P : Program) (o : Oper) (ts : List VV) (H : Heap) : Option (VV × Heap) :=
  match o.op with
  | .move x => some (veval ts x, H)
  | .assign x => some (veval ts x, H)
  | .pick c a b => match veval ts c with
    | .sc (.bool true) => some (veval ts a, H)
    | .sc (.bool false) => some (veval ts b, H)
    | _ => none
  | .alloc t => valloc P t H
  | .box _ x => vbox (veval ts x) H
  | .build t ps => keepH H (vbuild P t (ps.toList.map fun p => (p.1, veval ts p.2)))
  | .buildSlice t n ps => vbuildSlice P t n (ps.toList.map fun p => (p.1, veval ts p.2)) H
  | .load t a => keepH H (vload P t (veval ts a) H)
  | .store t a x => match vstore P t (veval ts a) (veval ts x) H with
    | some H' => some (.tp [], H')
    | none => none
  | .nilCheck x => match veval ts x with
    | .ptr b q => some (.ptr b q, H)
    | .rp vs q => some (.rp vs q, H)
    | .yl l => some (.yl l, H)
    | .fn (.func f) a b => some (.fn (.func f) a b, H)
    | _ => keepH H (vplain P o (veval ts))
  | .binOp op t x y _ => keepH H (orE (vnilEq P op t (veval ts x) (veval ts y)) (vplain P o (veval ts)))
  | .convert s d x => orE (vconvert P s d (veval ts x) H) (keepH H (vplain P o (veval ts)))
  | .makeFunc f a b => some (.fn f (a.toList.map (veval ts)) (b.toList.map (veval ts)), H)
  | .makeInterface t x => match P.underlying t with
    | some (.interface _) => none
    | none => none
    | some _ => match plain (veval ts x) with
      | some u => some (.sc (.iface t u), H)
      | none => some (.ifc t (veval ts x), H)
  | .makeSlice t l c => vmakeSlice P t (veval ts l) (veval ts c) H
  | .slice t x lo hi mx => keepH H (orE (vslice P t (veval ts x) (lo.map (veval ts)) (hi.map (veval ts)) (mx.map (veval ts))) (vplain P o (veval ts)))
  | .fieldAddr s x f => keepH H (vfieldAddr P s (veval ts x) f)
  | .field s x f => keepH H (vfield P s (veval ts x) f)
  | .indexAddr t x i => keepH H (vindexAddr P t (veval ts x) (veval ts i))
  | .index t x i => keepH H (orE (vindex P t (veval ts x) (veval ts i)) (vplain P o (veval ts)))
  | .extract x i => keepH H (vextract (veval ts x) i)
  | .call c => match c.callee with
    | .builtin .append => match c.args.toList, c.argTypes.toList with
      | [s, x], [sT, xT] => vappend P sT xT (veval ts s) (veval ts x) H
      | _, _ => none
    | .builtin .copy => match c.args.toList, c.argTypes.toList with
      | [s, x], [sT, _] => vcopy P sT (veval ts s) (veval ts x) H
      | _, _ => none
    | .builtin .clear => match c.args.toList, c.argTypes.toList with
      | [x], [t] => vclear P t (veval ts x) H
      | _, _ => none
    | .builtin .len => match c.args.toList, c.argTypes.toList with
      | [x], [t] => keepH H (orE (vlen P t (veval ts x)) (vplain P o (veval ts)))
      | _, _ => none
    | .builtin _ => keepH H (vplain P o (veval ts))
    | _ => none
  | .defer _ => none
  | _ => keepH H (vplain P o (veval ts))

/-- What one operation must do. -/
def OpDoes (P : Program) (o : Oper) (a : Act) (B : World) (M : Nat → Prop) (n : Nat) (Z : Nat → Prop) (ρ : Nat → Option (Nat × Nat)) (w : World) (v : VV) (H' : Heap) : Prop :=
  ∃ v' w' Z' ρ', ((execOp a.eval o).run P w = .ok (.value v') w' ∨ ((execOp a.eval o).run P w = .ok .skip w' ∧ v' = undef)) ∧ Ext (own B M) n Z ρ w H'.next Z' ρ' w' ∧ Rel B M Z' ρ' H' w' ∧ VRel w' Z' ρ' v v'
section
variable {P : Program} {B : World} {M : Nat → Prop} {Z : Nat → Prop} {ρ : Nat → Option (Nat × Nat)} {w : World} {H H' : Heap} {o : Oper} {a : Act} {ts : List VV} {v : VV}
theorem OpDoes.of {s : Sem Value} (hd : Does P B M H.next Z ρ w s v H') (he : execOp a.eval o = (do pure (.value (← s)))) : OpDoes P o a B M H.next Z ρ w v H' := by
  obtain ⟨v', w', ρ', h1, h2, h3, h4⟩ := hd
  exact ⟨v', w', Z, ρ', .inl (by rw [he]; simp [h1]), h2, h3, h4⟩
theorem OpDoes.plain (h : Rel B M Z ρ H w) (ht : Pw (VRel w Z ρ) ts a.tmps.toList) (hv : vplain P o (veval ts) = some v) : OpDoes P o a B M H.next Z ρ w v H := by
  obtain ⟨v', h1, h2⟩ := vplain_sound (w := w) (Z := Z) (ρ := ρ) (aev := a.eval) hv (fun x => veval_rel ht x)
  exact ⟨v', w, Z, ρ, .inl h1, Ext.refl _ _ _ _, h, h2⟩
theorem orelO (ht : Pw (VRel w Z ρ) ts a.tmps.toList) (x : Option Operand) : ORelO w Z ρ (x.map (veval ts)) (x.map a.eval) := by
  cases x with
  | none => trivial
  | some x => exact veval_rel ht x
theorem pwP_parts (ht : Pw (VRel w Z ρ) ts a.tmps.toList) : ∀ l : List (Nat × Operand), PwP (VRel w Z ρ) (l.map fun p => (p.1, veval ts p.2)) (l.map fun p => (p.1, a.eval p.2))
  | [] => trivial
  | (i, x) :: r => ⟨rfl, veval_rel ht x, pwP_parts ht r⟩
theorem pw_evals (ht : Pw (VRel w Z ρ) ts a.tmps.toList) : ∀ l : List Operand, Pw (VRel w Z ρ) (l.map (veval ts)) (l.map a.eval)
  | [] => Pw.nil
  | x :: r => Pw.cons (veval_rel ht x) (pw_evals ht r)
theorem keepH_eq {x : Option VV} (h : keepH H x = some (v, H')) : x = some v ∧ H' = H := by
  cases x <;> simp [keepH] at h
  exact ⟨by rw [h.1], h.2.symm⟩
theorem orE_eq {α : Type} {x y : Option α} {z : α} (h : orE x y = some z) : x = some z ∨ y = some z := by
  cases x <;> simp [orE] at h
  · exact .inr h
  · exact .inl (by rw [h])
theorem vop_sound (h : Rel B M Z ρ H w) (ht : Pw (VRel w Z ρ) ts a.tmps.toList) (hv : vop P o ts H = some (v, H')) : OpDoes P o a B M H.next Z ρ w v H' := by
  have hev := fun x => veval_rel (w := w) (Z := Z) (ρ := ρ) (a := a) ht x
  have pl : ∀ {H' : Heap}, keepH H (vplain P o (veval ts)) = some (v, H') → OpDoes P o a B M H.next Z ρ w v H' := fun hk => by
    obtain ⟨h1, rfl⟩ := keepH_eq hk
    exact OpDoes.plain h ht h1
  unfold vop at hv
  split at hv
  · rename_i x ho
    simp at hv; obtain ⟨rfl, rfl⟩ := hv
    exact ⟨_, w, Z, ρ, .inl (by simp [execOp, ho]), Ext.refl _ _ _ _, h, hev x⟩
  · rename_i x ho
    simp at hv; obtain ⟨rfl, rfl⟩ := hv
    exact ⟨_, w, Z, ρ, .inl (by simp [execOp, ho]), Ext.refl _ _ _ _, h, hev x⟩
  · rename_i c x y ho
    have hc := hev c
    split at hv
    · rename_i e
      simp at hv; obtain ⟨rfl, rfl⟩ := hv
      rw [e] at hc
      generalize hce : a.eval c = u at hc
      cases hc
      exact ⟨a.eval x, w, Z, ρ, .inl (by simp [execOp, ho, hce, asBool]), Ext.refl _ _ _ _, h, hev x⟩
    · rename_i e
      simp at hv; obtain ⟨rfl, rfl⟩ := hv
      rw [e] at hc
      generalize hce : a.eval c = u at hc
      cases hc
      exact ⟨a.eval y, w, Z, ρ, .inl (by simp [execOp, ho, hce, asBool]), Ext.refl _ _ _ _, h, hev y⟩
    · simp at hv
  · rename_i t ho
    exact OpDoes.of (valloc_sound h hv) (by simp [execOp, ho])
  · rename_i t x ho
    exact OpDoes.of (vbox_sound (t := t) h (hev x) hv) (by simp [execOp, ho])
  · rename_i t ps ho
    obtain ⟨h1, rfl⟩ := keepH_eq hv
    exact OpDoes.of (vbuild_sound (qs := ps.map fun p => (p.1, a.eval p.2)) h (by rw [Array.toList_map]; exact pwP_parts ht _) h1) (by simp [execOp, ho])
  · rename_i t n ps ho
    exact OpDoes.of (vbuildSlice_sound (qs := ps.map fun p => (p.1, a.eval p.2)) h (by rw [Array.toList_map]; exact pwP_parts ht _) hv) (by simp [execOp, ho])
  · rename_i t x ho
    obtain ⟨h1, rfl⟩ := keepH_eq hv
    exact OpDoes.of (vload_sound h (hev x) h1) (by simp [execOp, ho])
  · rename_i t x y ho
    split at hv
    · rename_i H1 h1
      simp at hv; obtain ⟨rfl, rfl⟩ := hv
      obtain ⟨w', g1, g2, g3⟩ := vstore_sound h (hev x) (hev y) h1
      exact ⟨undef, w', Z, ρ, .inr ⟨by simp [execOp, ho, g1], rfl⟩, g2, g3, VRel.undef⟩
    · simp at hv
  · rename_i x ho
    have hx := hev x
    split at hv
    · rename_i b q e
      simp at hv; obtain ⟨rfl, rfl⟩ := hv
      rw [e] at hx
      generalize hax : a.eval x = u at hx
      cases hx with
      | ptr hk => exact ⟨_, w, Z, ρ, .inl (by simp [execOp, ho, hax]), Ext.refl _ _ _ _, h, .ptr hk⟩
    · rename_i vs q e
      simp at hv; obtain ⟨rfl, rfl⟩ := hv
      rw [e] at hx
      generalize hax : a.eval x = u at hx
      cases hx with
      | rp g1 g2 g3 g4 => exact ⟨_, w, Z, ρ, .inl (by simp [execOp, ho, hax]), Ext.refl _ _ _ _, h, .rp g1 g2 g3 g4⟩
    · rename_i l e
      simp at hv; obtain ⟨rfl, rfl⟩ := hv
      rw [e] at hx
      generalize hax : a.eval x = u at hx
      cases hx with
      | yl hk => exact ⟨_, w, Z, ρ, .inl (by simp [execOp, ho, hax]), Ext.refl _ _ _ _, h, .yl hk⟩
    · rename_i f vs us e
      simp at hv; obtain ⟨rfl, rfl⟩ := hv
      rw [e] at hx
      generalize hax : a.eval x = u at hx
      cases hx with
      | fn g1 g2 g3 g4 => exact ⟨_, w, Z, ρ, .inl (by simp [execOp, ho, hax]), Ext.refl _ _ _ _, h, .fn g1 g2 g3 g4⟩
    · exact pl hv
  · rename_i op t x y yt ho
    obtain ⟨h1, rfl⟩ := keepH_eq hv
    rcases orE_eq h1 with h1 | h1
    · exact OpDoes.of (vnilEq_sound (ox := x) (oy := y) h (hev x) (hev y) h1) (by simp [execOp, ho])
    · exact OpDoes.plain h ht h1
  · rename_i s d x ho
    rcases orE_eq hv with h1 | h1
    · exact OpDoes.of (vconvert_sound h (hev x) h1) (by simp [execOp, ho])
    · exact pl h1
  · rename_i f xs ys ho
    simp at hv; obtain ⟨rfl, rfl⟩ := hv
    have p1 : Pw (VRel w Z ρ) (xs.toList.map (veval ts)) (xs.map a.eval).toList := by rw [Array.toList_map]; exact pw_evals ht _
    have p2 : Pw (VRel w Z ρ) (ys.toList.map (veval ts)) (ys.map a.eval).toList := by rw [Array.toList_map]; exact pw_evals ht _
    exact ⟨_, w, Z, ρ, .inl (by simp [execOp, ho, Instr.makeFunc]), Ext.refl _ _ _ _, h, .fn p1.1 p1.2 p2.1 p2.2⟩
  · rename_i t x ho
    split at hv
    · simp at hv
    · simp at hv
    · rename_i d hnd hu
      have hrun : (Instr.makeInterface t (a.eval x)).run P w = .ok (.iface t (a.eval x)) w := by
        simp only [Instr.makeInterface, Sem.run_bind, run_underlying hu, Result.andThen_ok]
        cases d <;> first | rfl | exact (hnd _ rfl).elim
      split at hv
      · rename_i u hp
        simp at hv; obtain ⟨rfl, rfl⟩ := hv
        have := plain_eq hp (hev x)
        exact OpDoes.of (Does.same h hrun (by rw [this]; exact .sc rfl)) (by simp [execOp, ho])
      · simp at hv; obtain ⟨rfl, rfl⟩ := hv
        exact OpDoes.of (Does.same h hrun (.ifc (hev x))) (by simp [execOp, ho])
  · rename_i t l c ho
    exact OpDoes.of (vmakeSlice_sound h (hev l) (hev c) hv) (by simp [execOp, ho])
  · rename_i t x lo hi mx ho
    obtain ⟨h1, rfl⟩ := keepH_eq hv
    rcases orE_eq h1 with h1 | h1
    · exact OpDoes.of (vslice_sound h (hev x) (orelO ht lo) (orelO ht hi) (orelO ht mx) h1) (by simp [execOp, ho])
    · exact OpDoes.plain h ht h1
  · rename_i s x f ho
    obtain ⟨h1, rfl⟩ := keepH_eq hv
    exact OpDoes.of (vfieldAddr_sound h (hev x) h1) (by simp [execOp, ho])
  · rename_i s x f ho
    obtain ⟨h1, rfl⟩ := keepH_eq hv
    exact OpDoes.of (vfield_sound h (hev x) h1) (by simp [execOp, ho])
  · rename_i t x i ho
    obtain ⟨h1, rfl⟩ := keepH_eq hv
    exact OpDoes.of (vindexAddr_sound h (hev x) (hev i) h1) (by simp [execOp, ho])
  · rename_i t x i ho
    obtain ⟨h1, rfl⟩ := keepH_eq hv
    rcases orE_eq h1 with h1 | h1
    · exact OpDoes.of (vindex_sound h (hev x) (hev i) h1) (by simp [execOp, ho])
    · exact OpDoes.plain h ht h1
  · rename_i x i ho
    obtain ⟨h1, rfl⟩ := keepH_eq hv
    exact OpDoes.of (vextract_sound h (hev x) h1) (by simp [execOp, ho])
  · rename_i c ho
    obtain ⟨callee, args, argTypes⟩ := c
    split at hv
    · rename_i hc
      simp only at hc
      subst hc
      split at hv
      · rename_i s x sT xT e1 e2
        simp only at e1 e2
        have a1 : args = #[s, x] := by cases args; simp at e1; simp [e1]
        have a2 : argTypes = #[sT, xT] := by cases argTypes; simp at e2; simp [e2]
        subst a1 a2
        exact OpDoes.of (vappend_sound (ty := o.type) h (hev s) (hev x) hv) (by simp [execOp, ho, resolve, invoke, builtin])
      · simp at hv
    · rename_i hc
      simp only at hc
      subst hc
      split at hv
      · rename_i s x sT xT e1 e2
        simp only at e1 e2
        have a1 : args = #[s, x] := by cases args; simp at e1; simp [e1]
        have a2 : argTypes = #[sT, xT] := by cases argTypes; simp at e2; simp [e2]
        subst a1 a2
        exact OpDoes.of (vcopy_sound (ty := o.type) (sT := xT) h (hev s) (hev x) hv) (by simp [execOp, ho, resolve, invoke, builtin])
      · simp at hv
    · rename_i hc
      simp only at hc
      subst hc
      split at hv
      · rename_i x t e1 e2
        simp only at e1 e2
        have a1 : args = #[x] := by cases args; simp at e1; simp [e1]
        have a2 : argTypes = #[t] := by cases argTypes; simp at e2; simp [e2]
        subst a1 a2
        exact OpDoes.of (vclear_sound (ty := o.type) h (hev x) hv) (by simp [execOp, ho, resolve, invoke, builtin])
      · simp at hv
    · rename_i hc
      simp only at hc
      subst hc
      split at hv
      · rename_i x t e1 e2
        simp only at e1 e2
        have a1 : args = #[x] := by cases args; simp at e1; simp [e1]
        have a2 : argTypes = #[t] := by cases argTypes; simp at e2; simp [e2]
        subst a1 a2
        obtain ⟨h1, rfl⟩ := keepH_eq hv
        rcases orE_eq h1 with h1 | h1
        · exact OpDoes.of (vlen_sound (ty := o.type) h (hev x) h1) (by simp [execOp, ho, resolve, invoke, builtin])
        · exact OpDoes.plain h ht h1
      · simp at hv
    · exact pl hv
    · simp at hv
  · simp at hv
  · exact pl hv
end
end Go.Proofs.Ytbnemkdkeaiaoaa
