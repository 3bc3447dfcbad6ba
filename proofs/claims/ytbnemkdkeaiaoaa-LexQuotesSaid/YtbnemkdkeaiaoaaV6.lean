/- Regions that draw their order, where no operation changes what is there, over values that are not all known. Over any program. -/
import Derived.Test.YtbnemkdkeaiaoaaV4
namespace Go.Proofs.Ytbnemkdkeaiaoaa
open Go Go.RowKit
set_option linter.unusedSimpArgs false
set_option linter.unusedVariables false
structure Val (A B : VV → Prop) : Prop where
  out : ∃ v, A v ∧ B v
theorem Val.via {A B : VV → Prop} {v : VV} (h : A v) (g : B v) : Val A B := ⟨⟨v, h, g⟩⟩
structure Is (x v : VV) (K H : Heap) : Prop where
  val : x = v
  heap : K = H
def snocE : List VV → VV → (List VV → Prop) → Prop
  | [], v, K => K [v]
  | a :: r, v, K => snocE r v fun r' => K (a :: r')
theorem snocE_eq : ∀ (l : List VV) (v : VV) (K : List VV → Prop), snocE l v K = K (l ++ [v])
  | [], _, _ => rfl
  | a :: r, v, K => by simp only [snocE, snocE_eq r v, List.cons_append]
theorem tFor_get (i : Nat) (o : Oper) : ∀ (l : List Oper) (j : Nat) (vs ts : List VV), (dstsOf l).Nodup → (tFor i o l j vs ts).length = ts.length ∧
    (∀ t, t ∉ dstsOf l → (tFor i o l j vs ts)[t]? = ts[t]?) ∧ (∀ (m t : Nat) (x : Oper), l[m]? = some x → x.dst = some t → t < ts.length → (tFor i o l j vs ts)[t]? = some (match waitsFor o.after.toList (j + m) with
      | true => (vs[m]?).getD .junk
      | false => match waitsFor x.after.toList i with
        | true => (ts[t]?).getD .junk
        | false => .junk))
  | [], j, vs, ts, _ => ⟨rfl, fun _ _ => rfl, fun m t x h => by simp at h⟩
  | x :: r, j, vs, ts, hn => by
    simp only [tFor]
    have hv : ∀ m, vs.tail[m]? = vs[m + 1]? := fun m => by cases vs <;> simp
    cases hd : x.dst with
    | none =>
      simp only
      have hn' : (dstsOf r).Nodup := by simpa [dstsOf, hd] using hn
      obtain ⟨a1, a2, a3⟩ := tFor_get i o r (j + 1) vs.tail ts hn'
      refine ⟨a1, fun t ht => a2 t (by simpa [dstsOf, hd] using ht), fun m t y hy hyd hlt => ?_⟩
      cases m with
      | zero => simp at hy; subst hy; rw [hd] at hyd; cases hyd
      | succ m =>
        simp at hy
        have := a3 m t y hy hyd hlt
        rw [this, hv, show j + 1 + m = j + (m + 1) by omega]
    | some d =>
      have hn' : d ∉ dstsOf r ∧ (dstsOf r).Nodup := by simpa [dstsOf, hd] using hn
      have key : ∀ (u : Option VV), (∀ v, u = some v → d < ts.length → True) → ∀ ts', ts' = (match u with | some v => ts.set d v | none => ts) →
          ((tFor i o r (j + 1) vs.tail ts').length = ts.length ∧ (∀ t, t ∉ dstsOf (x :: r) → (tFor i o r (j + 1) vs.tail ts')[t]? = ts[t]?) ∧
          (d < ts.length → (tFor i o r (j + 1) vs.tail ts')[d]? = some (match u with | some v => v | none => (ts[d]?).getD .junk)) ∧
          (∀ (m t : Nat) (y : Oper), r[m]? = some y → y.dst = some t → t < ts.length → (tFor i o r (j + 1) vs.tail ts')[t]? = some (match waitsFor o.after.toList (j + (m + 1)) with
            | true => (vs[m + 1]?).getD .junk
            | false => match waitsFor y.after.toList i with
              | true => (ts[t]?).getD .junk
              | false => .junk))) := by
        intro u _ ts' e
        obtain ⟨a1, a2, a3⟩ := tFor_get i o r (j + 1) vs.tail ts' hn'.2
        have hl : ts'.length = ts.length := by subst e; cases u <;> simp
        have hne : ∀ t, t ≠ d → ts'[t]? = ts[t]? := fun t ht => by subst e; cases u <;> simp [List.getElem?_set_ne (fun q => ht q.symm)]
        refine ⟨a1.trans hl, fun t ht => ?_, fun hlt => ?_, fun m t y hy hyd hlt => ?_⟩
        · have ht' : ¬ (t = d ∨ t ∈ dstsOf r) := by simpa [dstsOf, hd] using ht
          rw [a2 t (fun h => ht' (.inr h)), hne t (fun e => ht' (.inl e))]
        · rw [a2 d hn'.1]
          subst e
          cases u with
          | none => simp [List.getElem?_eq_getElem hlt]
          | some v => simp [List.getElem?_set_self hlt]
        · have htd : t ≠ d := fun e => by
            subst e
            exact hn'.1 (mem_dstsOf (List.mem_of_getElem? hy) hyd)
          rw [a3 m t y hy hyd (by omega), hv, show j + 1 + m = j + (m + 1) by omega, hne t htd]
      have fin : ∀ (u : Option VV) (ts' : List VV), ts' = (match u with | some v => ts.set d v | none => ts) → ((match u with | some v => v | none => (ts[d]?).getD .junk) = (match waitsFor o.after.toList (j + 0) with
            | true => (vs[0]?).getD .junk
            | false => match waitsFor x.after.toList i with
              | true => (ts[d]?).getD .junk
              | false => .junk)) → _ := fun u ts' e hu => by
        obtain ⟨k1, k2, k3, k4⟩ := key u (fun _ _ _ => trivial) ts' e
        exact (⟨k1, k2, fun m t y hy hyd hlt => by
          cases m with
          | zero =>
            simp at hy
            subst hy
            rw [hd] at hyd; injection hyd with hyd; subst hyd
            rw [k3 hlt, hu]
          | succ m =>
            simp at hy
            exact k4 m t y hy hyd hlt⟩ : (tFor i o r (j + 1) vs.tail ts').length = ts.length ∧
    (∀ t, t ∉ dstsOf (x :: r) → (tFor i o r (j + 1) vs.tail ts')[t]? = ts[t]?) ∧ (∀ (m t : Nat) (y : Oper), (x :: r)[m]? = some y → y.dst = some t → t < ts.length → (tFor i o r (j + 1) vs.tail ts')[t]? = some (match waitsFor o.after.toList (j + m) with
      | true => (vs[m]?).getD .junk
      | false => match waitsFor y.after.toList i with
        | true => (ts[t]?).getD .junk
        | false => .junk)))
      simp only
      cases hw : waitsFor o.after.toList j with
      | true =>
        refine fin (some (vs.headD .junk)) _ rfl ?_
        simp only [Nat.add_zero, hw]
        cases vs <;> rfl
      | false =>
        simp only
        cases hw2 : waitsFor x.after.toList i with
        | true =>
          refine fin none _ rfl ?_
          simp only [Nat.add_zero, hw, hw2]
        | false =>
          refine fin (some .junk) _ rfl ?_
          simp only [Nat.add_zero, hw, hw2]
/-- The operation whose result a temporary holds. -/
def dstIdx : List Oper → Nat → Nat → Option (Nat × Oper)
  | [], _, _ => none
  | x :: r, j, k => match x.dst with
    | none => dstIdx r (j + 1) k
    | some d => match Nat.beq d k with
      | true => some (j, x)
      | false => dstIdx r (j + 1) k
theorem dstIdx_cases : ∀ (l : List Oper) (j k : Nat), (dstIdx l j k = none ∧ k ∉ dstsOf l) ∨ ∃ m x, dstIdx l j k = some (j + m, x) ∧ l[m]? = some x ∧ x.dst = some k
  | [], j, k => .inl ⟨rfl, by simp [dstsOf]⟩
  | x :: r, j, k => by
    have ih := dstIdx_cases r (j + 1) k
    unfold dstIdx dstsOf
    have up : (∃ m y, dstIdx r (j + 1) k = some (j + 1 + m, y) ∧ r[m]? = some y ∧ y.dst = some k) → ∃ m y, dstIdx r (j + 1) k = some (j + m, y) ∧ (x :: r)[m]? = some y ∧ y.dst = some k := by
      rintro ⟨m, y, h1, h2, h3⟩
      exact ⟨m + 1, y, by rw [h1, show j + 1 + m = j + (m + 1) by omega], by simpa using h2, h3⟩
    cases hd : x.dst with
    | none =>
      simp only
      rcases ih with h | h
      · exact .inl h
      · exact .inr (up h)
    | some d =>
      simp only
      rcases beq_cases d k with ⟨h1, e⟩ | ⟨h1, e⟩
      · subst e
        rw [h1]
        exact .inr ⟨0, x, rfl, rfl, hd⟩
      · rw [h1]
        simp only
        rcases ih with h | h
        · exact .inl ⟨h.1, by simp only [List.mem_cons, not_or]; exact ⟨fun q => e q.symm, h.2⟩⟩
        · exact .inr (up h)
/-- What operation i finds in a temporary. -/
def tmpVal (i : Nat) (o : Oper) (ops : List Oper) (vs ts0 : List VV) (k : Nat) : VV := match dstIdx ops 0 k with
  | none => (ts0[k]?).getD .junk
  | some (j, x) => match waitsFor o.after.toList j with
    | true => (vs[j]?).getD .junk
    | false => match waitsFor x.after.toList i with
      | true => (ts0[k]?).getD .junk
      | false => .junk
theorem tmpVal_eq {i : Nat} {o : Oper} {ops : List Oper} {vs ts0 : List VV} {k : Nat} (hn : (dstsOf ops).Nodup) (hk : k < ts0.length) : (tFor i o ops 0 vs ts0)[k]? = some (tmpVal i o ops vs ts0 k) := by
  obtain ⟨a1, a2, a3⟩ := tFor_get i o ops 0 vs ts0 hn
  unfold tmpVal
  rcases dstIdx_cases ops 0 k with ⟨h1, h2⟩ | ⟨m, x, h1, h2, h3⟩
  · rw [h1, a2 k h2]
    simp [List.getElem?_eq_getElem hk]
  · rw [h1, a3 m k x h2 h3 hk, Nat.zero_add]
def envE (i : Nat) (o : Oper) (ops : List Oper) (vs ts0 : List VV) : List Operand → (List (Nat × VV) → Prop) → Prop
  | [], K => K []
  | .tmp k :: r, K => forceV (tmpVal i o ops vs ts0 k) fun v => envE i o ops vs ts0 r fun l => K ((k, v) :: l)
  | _ :: r, K => envE i o ops vs ts0 r K
def envL (i : Nat) (o : Oper) (ops : List Oper) (vs ts0 : List VV) : List Operand → List (Nat × VV)
  | [] => []
  | .tmp k :: r => (k, tmpVal i o ops vs ts0 k) :: envL i o ops vs ts0 r
  | _ :: r => envL i o ops vs ts0 r
theorem envE_eq (i : Nat) (o : Oper) (ops : List Oper) (vs ts0 : List VV) : ∀ (l : List Operand) (K : List (Nat × VV) → Prop), envE i o ops vs ts0 l K = K (envL i o ops vs ts0 l)
  | [], K => rfl
  | .tmp k :: r, K => by simp only [envE, envL, forceV_eq, envE_eq i o ops vs ts0 r]
  | .const _ :: r, K => by simp only [envE, envL, envE_eq i o ops vs ts0 r]
  | .global _ :: r, K => by simp only [envE, envL, envE_eq i o ops vs ts0 r]
  | .func _ :: r, K => by simp only [envE, envL, envE_eq i o ops vs ts0 r]
theorem lookT_env (i : Nat) (o : Oper) (ops : List Oper) (vs ts0 : List VV) (k : Nat) : ∀ (l : List Operand), lookT (envL i o ops vs ts0 l) k = .junk ∨ lookT (envL i o ops vs ts0 l) k = tmpVal i o ops vs ts0 k
  | [] => .inl rfl
  | .tmp j :: r => by
    simp only [envL, lookT]
    rcases beq_cases j k with ⟨h1, e⟩ | ⟨h1, e⟩
    · subst e
      rw [h1]; exact .inr rfl
    · rw [h1]; exact lookT_env i o ops vs ts0 k r
  | .const _ :: r => lookT_env i o ops vs ts0 k r
  | .global _ :: r => lookT_env i o ops vs ts0 k r
  | .func _ :: r => lookT_env i o ops vs ts0 k r
def readsOf (ops : Array Oper) (o : Oper) : List Operand := match o.guard with
  | none => o.op.operands.toList
  | some (j, _) => match (ops[j]?).bind (·.dst) with
    | some d => .tmp d :: o.op.operands.toList
    | none => o.op.operands.toList
theorem VOne.less {P : Program} {o : Oper} {ts ts1 : List VV} {H : Heap} {Q : VV → Heap → Prop} (ht : ∀ w Z ρ cs, Pw (VRel w Z ρ) ts cs → Pw (VRel w Z ρ) ts1 cs) (h : VOne P o ts1 H Q) : VOne P o ts H Q := fun B M Z ρ a w rr K QE h1 h2 h3 => h B M Z ρ a w rr K QE h1 (ht _ _ _ _ h2) h3
section
variable (P : Program) (ops : Array Oper) (ts0 : List VV) (H : Heap) (K : List VV → Prop)
def wdraw (i : Nat) (l : List Oper) (vs : List VV) : Prop :=
  List.rec (motive := fun _ => Nat → List VV → Prop) (fun _ vs => K vs) (fun o _ ih i vs => match o.guard with
    | none => envE i o ops.toList vs ts0 (readsOf ops o) fun L => Val (fun v => wone P o (frameT L ts0.length 0) H fun x K' => Is x v K' H) (fun v => forceV v fun v' => snocE vs v' fun vs' => ih (i + 1) vs')
    | some (j, want) => match waitsFor o.after.toList j with
      | true => match vs[j]? with
        | some (.sc (.bool b)) => ifB b
          (setE vs j (.sc (.bool true)) fun vs1 => match want with
            | true => envE i o ops.toList vs1 ts0 (readsOf ops o) fun L => Val (fun v => wone P o (frameT L ts0.length 0) H fun x K' => Is x v K' H) (fun v => forceV v fun v' => snocE vs1 v' fun vs' => ih (i + 1) vs')
            | false => snocE vs1 (.tp []) fun vs' => ih (i + 1) vs')
          (setE vs j (.sc (.bool false)) fun vs1 => match want with
            | false => envE i o ops.toList vs1 ts0 (readsOf ops o) fun L => Val (fun v => wone P o (frameT L ts0.length 0) H fun x K' => Is x v K' H) (fun v => forceV v fun v' => snocE vs1 v' fun vs' => ih (i + 1) vs')
            | true => snocE vs1 (.tp []) fun vs' => ih (i + 1) vs')
        | some (.tp _) => snocE vs (.tp []) fun vs' => ih (i + 1) vs'
        | _ => False
      | false => False) l i vs
theorem wdraw_cons (i : Nat) (o : Oper) (r : List Oper) (vs : List VV) : wdraw P ops ts0 H K i (o :: r) vs = (match o.guard with
    | none => envE i o ops.toList vs ts0 (readsOf ops o) fun L => Val (fun v => wone P o (frameT L ts0.length 0) H fun x K' => Is x v K' H) (fun v => forceV v fun v' => snocE vs v' fun vs' => wdraw P ops ts0 H K (i + 1) r vs')
    | some (j, want) => match waitsFor o.after.toList j with
      | true => match vs[j]? with
        | some (.sc (.bool b)) => ifB b
          (setE vs j (.sc (.bool true)) fun vs1 => match want with
            | true => envE i o ops.toList vs1 ts0 (readsOf ops o) fun L => Val (fun v => wone P o (frameT L ts0.length 0) H fun x K' => Is x v K' H) (fun v => forceV v fun v' => snocE vs1 v' fun vs' => wdraw P ops ts0 H K (i + 1) r vs')
            | false => snocE vs1 (.tp []) fun vs' => wdraw P ops ts0 H K (i + 1) r vs')
          (setE vs j (.sc (.bool false)) fun vs1 => match want with
            | false => envE i o ops.toList vs1 ts0 (readsOf ops o) fun L => Val (fun v => wone P o (frameT L ts0.length 0) H fun x K' => Is x v K' H) (fun v => forceV v fun v' => snocE vs1 v' fun vs' => wdraw P ops ts0 H K (i + 1) r vs')
            | true => snocE vs1 (.tp []) fun vs' => wdraw P ops ts0 H K (i + 1) r vs')
        | some (.tp _) => snocE vs (.tp []) fun vs' => wdraw P ops ts0 H K (i + 1) r vs'
        | _ => False
      | false => False) := rfl
/-- What is known of operation j. -/
def QFact (V : List VV) (j : Nat) (o : Oper) : Prop := ∃ v, V[j]? = some v ∧
  ((vwanted ops o (tFor j o ops.toList 0 V ts0) = some false ∧ v = .tp []) ∨ (vwanted ops o (tFor j o ops.toList 0 V ts0) = some true ∧ VOne P o (tFor j o ops.toList 0 V ts0) H (fun x K' => x = v ∧ K' = H)))
theorem wdraw_sound (hback : ∀ (i : Nat) (o : Oper), ops.toList[i]? = some o → ∀ e ∈ o.after.toList, bindsA e = true → e.on < i) (hnd : (dstsOf ops.toList).Nodup) (hbd : ∀ (i : Nat) (o : Oper), ops.toList[i]? = some o → ∀ d, o.dst = some d → d < ts0.length) (hgd : ∀ (i : Nat) (o : Oper) (j : Nat) (w : Bool), ops.toList[i]? = some o → o.guard = some (j, w) → ((ops[j]?).bind (fun x : Oper => x.dst)).isSome = true) : ∀ (r : List Oper) (i : Nat) (vs : List VV), ops.toList.drop i = r → vs.length = i → wdraw P ops ts0 H K i r vs →
    ∃ V, (∃ a, V = vs ++ a) ∧ (i ≤ ops.size → V.length = ops.size) ∧ K V ∧ ∀ j o, i ≤ j → ops.toList[j]? = some o → QFact P ops ts0 H V j o
  | [], i, vs, hd, hv, h => by
    have hle : ops.size ≤ i := by have := congrArg List.length hd; simp at this; omega
    refine ⟨vs, ⟨[], by simp⟩, fun h => by omega, h, fun j o hj ho => ?_⟩
    have := (List.getElem?_eq_some_iff.1 ho).1
    simp at this
    omega
  | o :: r, i, vs, hd, hv, h => by
    have ho : ops.toList[i]? = some o := by
      have := congrArg (fun l => l[0]?) hd
      simpa using this
    have hd' : ops.toList.drop (i + 1) = r := by rw [← List.drop_drop, hd]; rfl
    have hilt : i < ops.size := by have := (List.getElem?_eq_some_iff.1 ho).1; simpa using this
    have hT : ∀ {V : List VV} {a : List VV}, V = vs ++ a → tFor i o ops.toList 0 vs ts0 = tFor i o ops.toList 0 V ts0 := fun {V a} e => tFor_vals _ _ _ _ _ fun m hm => by
      obtain ⟨ed, he, hon, hb⟩ := waitsFor_iff hm
      have := hback i o ho ed he hb
      rw [e, List.getElem?_append_left (by omega)]
    have step : ∀ (v : VV), wdraw P ops ts0 H K (i + 1) r (vs ++ [v]) → (∀ V, tFor i o ops.toList 0 vs ts0 = tFor i o ops.toList 0 V ts0 → V[i]? = some v → QFact P ops ts0 H V i o) →
        ∃ V, (∃ a, V = vs ++ a) ∧ (i ≤ ops.size → V.length = ops.size) ∧ K V ∧ ∀ j o, i ≤ j → ops.toList[j]? = some o → QFact P ops ts0 H V j o := by
      intro v hw hf
      obtain ⟨V, ⟨a, ha⟩, hl, hk, hq⟩ := wdraw_sound hback hnd hbd hgd r (i + 1) (vs ++ [v]) hd' (by simp [hv]) hw
      refine ⟨V, ⟨v :: a, by rw [ha]; simp⟩, fun _ => hl hilt, hk, fun j x hj hx => ?_⟩
      by_cases e : j = i
      · subst e
        rw [ho] at hx; injection hx with hx; subst hx
        refine hf V (hT (a := v :: a) (by rw [ha]; simp)) ?_
        rw [ha, List.append_assoc, List.getElem?_append_right (by omega)]; simp [hv]
      · exact hq j x (by omega) hx
    have less : ∀ (l : List Operand) (w : World) (Z : Nat → Prop) (ρ : Nat → Option (Nat × Nat)) (cs : List Value), Pw (VRel w Z ρ) (tFor i o ops.toList 0 vs ts0) cs → Pw (VRel w Z ρ) (frameT (envL i o ops.toList vs ts0 l) ts0.length 0) cs := fun l w Z ρ cs hp => by
      have hl := (tFor_get i o ops.toList 0 vs ts0 hnd).1
      refine ⟨by rw [frameT_length, ← hl]; exact hp.1, fun k u x hu hx => ?_⟩
      simp only [frameT_get, Nat.zero_add] at hu
      split at hu
      · rename_i hk
        simp at hu
        rcases lookT_env i o ops.toList vs ts0 k l with e | e
        · rw [← hu, e]; exact .junk
        · rw [← hu, e]; exact hp.2 k _ x (tmpVal_eq hnd hk) hx
      · simp at hu
    have go : ∀ (hw : vwanted ops o (tFor i o ops.toList 0 vs ts0) = some true), (envE i o ops.toList vs ts0 (readsOf ops o) fun L => Val (fun v => wone P o (frameT L ts0.length 0) H fun x K' => Is x v K' H) (fun v => forceV v fun v' => snocE vs v' fun vs' => wdraw P ops ts0 H K (i + 1) r vs')) →
        ∃ V, (∃ a, V = vs ++ a) ∧ (i ≤ ops.size → V.length = ops.size) ∧ K V ∧ ∀ j o, i ≤ j → ops.toList[j]? = some o → QFact P ops ts0 H V j o := by
      intro hw hg
      rw [envE_eq] at hg
      obtain ⟨v, h1, h2⟩ := hg.out
      rw [forceV_eq, snocE_eq] at h2
      refine step v h2 fun V e hv' => ⟨v, hv', .inr ⟨e ▸ hw, ?_⟩⟩
      rw [← e]
      exact VOne.less (less _) ((wone_sound h1).mono fun x K' q => ⟨q.val, q.heap⟩)
    have skip : ∀ (hw : vwanted ops o (tFor i o ops.toList 0 vs ts0) = some false), (snocE vs (.tp []) fun vs' => wdraw P ops ts0 H K (i + 1) r vs') →
        ∃ V, (∃ a, V = vs ++ a) ∧ (i ≤ ops.size → V.length = ops.size) ∧ K V ∧ ∀ j o, i ≤ j → ops.toList[j]? = some o → QFact P ops ts0 H V j o := by
      intro hw hg
      rw [snocE_eq] at hg
      exact step _ hg fun V e hv' => ⟨_, hv', .inl ⟨e ▸ hw, rfl⟩⟩
    rw [wdraw_cons] at h
    split at h
    · rename_i hg
      exact go (by simp [vwanted, hg]) h
    · rename_i j want hg
      split at h
      case h_2 => exact h.elim
      rename_i hwt
      have hgd' := hgd i o j want ho hg
      have hval : ∀ u, vs[j]? = some u → ∃ d, (ops[j]?).bind (·.dst) = some d ∧ (tFor i o ops.toList 0 vs ts0)[d]? = some u := fun u hu => by
        cases hd2 : (ops[j]?).bind (·.dst) with
        | none => rw [hd2] at hgd'; cases hgd'
        | some d =>
          refine ⟨d, rfl, ?_⟩
          cases hx : ops[j]? with
          | none => rw [hx] at hd2; cases hd2
          | some x =>
            rw [hx] at hd2
            have hx' : ops.toList[j]? = some x := by simpa using hx
            have hxd : x.dst = some d := hd2
            have := (tFor_get i o ops.toList 0 vs ts0 hnd).2.2 j d x hx' hxd (hbd j x hx' d hxd)
            rw [this, Nat.zero_add, hwt, hu]
            rfl
      split at h
      · rename_i b hb
        obtain ⟨d, e1, e2⟩ := hval _ hb
        simp only [setE_eq] at h
        cases b with
        | true =>
          simp only [ifB] at h
          rw [set_same hb] at h
          cases want with
          | true => exact go (by simp [vwanted, hg, e1, e2]) h
          | false => exact skip (by simp [vwanted, hg, e1, e2]) h
        | false =>
          simp only [ifB] at h
          rw [set_same hb] at h
          cases want with
          | false => exact go (by simp [vwanted, hg, e1, e2]) h
          | true => exact skip (by simp [vwanted, hg, e1, e2]) h
      · rename_i hb
        obtain ⟨d, e1, e2⟩ := hval _ hb
        exact skip (by simp [vwanted, hg, e1, e2]) h
      · exact h.elim
end
/-- Destinations that are there; guards that name operations with destinations. -/
def fitN (n : Nat) (ops : Array Oper) : Bool := ops.toList.all fun o : Oper => (match o.dst with
    | some d => Nat.blt d n
    | none => true) && (match o.guard with
    | some (j, _) => ((ops[j]?).bind (fun x : Oper => x.dst)).isSome
    | none => true)
/-- tAll, looked at at once. -/
def tAllE : List Oper → List VV → List VV → (List VV → Prop) → Prop
  | x :: r, v :: vs, ts, K => match x.dst with
    | none => tAllE r vs ts K
    | some d => setE ts d v fun ts' => tAllE r vs ts' K
  | [], _, ts, K => K ts
  | _ :: _, [], ts, K => K ts
theorem tAllE_eq : ∀ (l : List Oper) (vs ts : List VV) (K : List VV → Prop), tAllE l vs ts K = K (tAll l vs ts)
  | [], vs, ts, K => by cases vs <;> rfl
  | _ :: _, [], ts, K => rfl
  | x :: r, v :: vs, ts, K => by
    simp only [tAllE, tAll]
    cases x.dst with
    | none => exact tAllE_eq r vs ts K
    | some d => simp only [setE_eq]; exact tAllE_eq r vs _ K
theorem cnt_false : ∀ n, cnt (fun _ => false) n = 0
  | 0 => rfl
  | n + 1 => by rw [cnt, cnt_false n]; rfl
/-- The rule. -/
theorem GWP.draw {P : Program} {r : Option Nat} {id : Nat} {ops : Array Oper} {Q : Exit → VSt → Prop} {s : VSt} (hm : P.follows .mixedOrders = true) (n : Nat) (hb : (backN 0 ops.toList && nodupN (dstsOf ops.toList) && fitN n ops) = true) (hlen : s.tmps.length = n)
    (h : match s with | ⟨ts0, H, m⟩ => wdraw P ops ts0 H (fun V => tAllE ops.toList V ts0 fun ts => Q .normal ⟨ts, H, m⟩) 0 ops.toList []) : GWP P r (.region id ops true) Q s := ⟨by
  obtain ⟨ts0, H, m⟩ := s
  simp only [Bool.and_eq_true] at hb
  have hback : ∀ i o, ops.toList[i]? = some o → ∀ e ∈ o.after.toList, bindsA e = true → e.on < i := fun i o ho e he hbe => by
    have := backN_iff hb.1.1 i o ho e he hbe
    omega
  have hlen : ts0.length = n := hlen
  have hfit : ∀ (i : Nat) (o : Oper), ops.toList[i]? = some o → (∀ d, o.dst = some d → d < ts0.length) ∧ ∀ (j : Nat) (w : Bool), o.guard = some (j, w) → ((ops[j]?).bind (fun x : Oper => x.dst)).isSome = true := fun i o ho => by
    have := List.all_eq_true.1 hb.2 o (List.mem_of_getElem? ho)
    simp only [Bool.and_eq_true] at this
    refine ⟨fun d hd => ?_, fun j w hg => ?_⟩
    · have h1 := this.1
      rw [hd] at h1
      rw [hlen]
      exact Nat.le_of_ble_eq_true h1
    · have h1 := this.2
      rw [hg] at h1
      exact h1
  obtain ⟨V, _, hl, hk, hq⟩ := wdraw_sound P ops ts0 H _ hback (nodup_of hb.1.2) (fun i o ho => (hfit i o ho).1) (fun i o j w ho => (hfit i o ho).2 j w) ops.toList 0 [] rfl rfl h
  have hl := hl (Nat.zero_le _)
  rw [tAllE_eq] at hk
  refine VWP.draw (vals := V) (G := fun _ => H) (ev := fun _ => false) hm ⟨by simpa using hl.symm, nodup_of hb.1.2, hback, fun i j _ h => by simp at h, fun i o ho hw => ?_, fun i o ho => ?_, fun i o v _ _ h => by simp at h, fun i o v p ho hw _ hv _ _ => ?_⟩ rfl hk
  · obtain ⟨v, h1, h2⟩ := hq i o (Nat.zero_le _) ho
    rcases h2 with ⟨_, rfl⟩ | ⟨h2, _⟩
    · exact ⟨h1, rfl⟩
    · rw [hw] at h2; simp at h2
  · obtain ⟨v, h1, h2⟩ := hq i o (Nat.zero_le _) ho
    rcases h2 with ⟨h2, _⟩ | ⟨h2, _⟩ <;> rw [h2] <;> simp
  · obtain ⟨u, h1, h2⟩ := hq i o (Nat.zero_le _) ho
    rw [hv] at h1
    injection h1 with h1
    subst h1
    rcases h2 with ⟨h2, _⟩ | ⟨_, h2⟩
    · rw [hw] at h2; simp at h2
    · exact h2⟩
end Go.Proofs.Ytbnemkdkeaiaoaa
