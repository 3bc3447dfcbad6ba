/- Regions that draw their order and make a variable, or write, when all the rest is done: the last operations follow one another. Over any program. -/
import Derived.Test.YtbnemkdkeaiaoaaVa
import Derived.Test.YtbnemkdkeaiaoaaV6
namespace Go.Proofs.Ytbnemkdkeaiaoaa
open Go Go.RowKit
set_option linter.unusedSimpArgs false
set_option linter.unusedVariables false

structure ValH (A B : VV → Heap → Prop) : Prop where
  out : ∃ v H, A v H ∧ B v H
theorem ValH.via {A B : VV → Heap → Prop} {v : VV} {H : Heap} (h : A v H) (g : B v H) : ValH A B := ⟨⟨v, H, h, g⟩⟩
/-- What operation i must wait for, from k down: l: those that are waited for so far. -/
def ancIn (ops : List Oper) : Nat → List Nat → List Nat
  | 0, l => l
  | k + 1, l => match l.any fun s => match ops[s]? with
      | some o => waitsFor o.after.toList k
      | none => false with
    | true => ancIn ops k (k :: l)
    | false => ancIn ops k l
def noG (ops : List Oper) : Bool := ops.all fun o => o.guard.isNone
def chainB (ops : List Oper) (m : Nat) : Nat → Bool
  | 0 => true
  | d + 1 => chainB ops m d && (match ops[m + d + 1]? with
    | some o => waitsFor o.after.toList (m + d)
    | none => true)
/-- The operations from m on follow one another; the alloc is ahead of them. -/
def tailB (ops : List Oper) (al m : Nat) : Bool := Nat.beq m ops.length || (Nat.ble m ops.length && chainB ops m (ops.length - m) && noG (ops.drop m) && (memN al (ancIn ops m [m]) || Nat.beq al ops.length))
def flagB (n m : Nat) (an : List Nat) (i : Nat) : Bool := match Nat.beq m n with
  | true => true
  | false => memN i an
theorem ancIn_sound {ops : List Oper} {m : Nat} : ∀ (k : Nat) (l : List Nat), (∀ s ∈ l, s = m ∨ Anc ops m s) → ∀ s ∈ ancIn ops k l, s = m ∨ Anc ops m s
  | 0, l, h => h
  | k + 1, l, h => by
    unfold ancIn
    split
    · rename_i hb
      refine ancIn_sound k (k :: l) fun s hs => ?_
      rcases List.mem_cons.1 hs with rfl | hs
      · obtain ⟨x, hx, hw⟩ := List.any_eq_true.1 hb
        split at hw
        · rename_i o ho
          obtain ⟨e, he, hon, hbe⟩ := waitsFor_iff hw
          have a1 : Anc ops x s := hon ▸ Anc.edge ho he hbe
          rcases h x hx with rfl | a2
          · exact .inr a1
          · exact .inr (.trans a2 a1)
        · simp at hw
      · exact h s hs
    · exact ancIn_sound k l h
theorem chainB_at {ops : List Oper} {m : Nat} : ∀ {d : Nat}, chainB ops m d = true → ∀ c, c < d → ∀ o, ops[m + c + 1]? = some o → waitsFor o.after.toList (m + c) = true
  | d + 1, h, c, hc, o, ho => by
    simp only [chainB, Bool.and_eq_true] at h
    by_cases e : c = d
    · subst e
      have := h.2
      rw [ho] at this
      exact this
    · exact chainB_at h.1 c (by omega) o ho
theorem tail_anc {ops : List Oper} {al m : Nat} (h : tailB ops al m = true) : ∀ (c j : Nat), m + c < ops.length → j < m + c → (j < m → j ∈ ancIn ops m [m]) → Anc ops (m + c) j := by
  simp only [tailB, Bool.or_eq_true, Bool.and_eq_true] at h
  rcases h with h | ⟨⟨⟨h1, h3⟩, h4⟩, h5⟩
  · have := Nat.eq_of_beq_eq_true h
    intro c j h1 h2
    omega
  intro c
  induction c with
  | zero =>
    intro j hlt hj hin
    rcases ancIn_sound m [m] (fun s hs => .inl (by simpa using hs)) j (hin (by omega)) with e | a
    · omega
    · exact a
  | succ c ih =>
    intro j hlt hj hin
    have ho : ops[m + c + 1]? = some ops[m + c + 1] := List.getElem?_eq_getElem (by omega)
    obtain ⟨e, he, hon, hbe⟩ := waitsFor_iff (chainB_at h3 c (by omega) _ ho)
    have a1 : Anc ops (m + c + 1) (m + c) := by
      have := Anc.edge ho he hbe
      rw [hon] at this
      exact this
    by_cases e : j = m + c
    · subst e; exact a1
    · exact .trans a1 (ih j (by omega) (by omega) hin)
section
variable (P : Program) (ops : Array Oper) (ts0 : List VV) (al m : Nat) (an : List Nat) (va : VV) (H0 H1 : Heap) (K : List VV → Heap → Prop)
def wtail (i : Nat) (l : List Oper) (vs : List VV) (H : Heap) : Prop :=
  List.rec (motive := fun _ => Nat → List VV → Heap → Prop) (fun _ vs H => K vs H) (fun o _ ih i vs H => envE i o ops.toList vs ts0 (readsOf ops o) fun L => ValH (fun v H' => wone P o (frameT L ts0.length 0) H fun x K' => Is x v K' H') (fun v H' => forceV v fun v' => snocE vs v' fun vs' => ih (i + 1) vs' H')) l i vs H
theorem wtail_cons (i : Nat) (o : Oper) (r : List Oper) (vs : List VV) (H : Heap) : wtail P ops ts0 K i (o :: r) vs H = (envE i o ops.toList vs ts0 (readsOf ops o) fun L => ValH (fun v H' => wone P o (frameT L ts0.length 0) H fun x K' => Is x v K' H') (fun v H' => forceV v fun v' => snocE vs v' fun vs' => wtail P ops ts0 K (i + 1) r vs' H')) := rfl
def pureX (g : Bool) (o : Oper) (ts : List VV) (v : VV) : Prop := match g with
  | false => ∀ Hx, wone P o ts Hx fun x K' => Is x v K' Hx
  | true => match Nat.blt al m with
    | true => (wone P o ts H0 fun x K' => Is x v K' H0) ∧ (wone P o ts H1 fun x K' => Is x v K' H1)
    | false => wone P o ts H0 fun x K' => Is x v K' H0
def wdrawX (i : Nat) (l : List Oper) (vs : List VV) : Prop :=
  List.rec (motive := fun _ => Nat → List VV → Prop) (fun i vs => wtail P ops ts0 K i [] vs H1) (fun o r ih i vs => match Nat.beq i m with
    | true => wtail P ops ts0 K i (o :: r) vs H1
    | false => match Nat.beq i al with
      | true => snocE vs va fun vs' => ih (i + 1) vs'
      | false => match o.guard with
        | none => envE i o ops.toList vs ts0 (readsOf ops o) fun L => Val (fun v => pureX P al m H0 H1 (flagB ops.size m an i) o (frameT L ts0.length 0) v) (fun v => forceV v fun v' => snocE vs v' fun vs' => ih (i + 1) vs')
        | some (j, want) => match waitsFor o.after.toList j with
          | true => match vs[j]? with
            | some (.sc (.bool b)) => ifB b
              (setE vs j (.sc (.bool true)) fun vs1 => match want with
                | true => envE i o ops.toList vs1 ts0 (readsOf ops o) fun L => Val (fun v => pureX P al m H0 H1 (flagB ops.size m an i) o (frameT L ts0.length 0) v) (fun v => forceV v fun v' => snocE vs1 v' fun vs' => ih (i + 1) vs')
                | false => snocE vs1 (.tp []) fun vs' => ih (i + 1) vs')
              (setE vs j (.sc (.bool false)) fun vs1 => match want with
                | false => envE i o ops.toList vs1 ts0 (readsOf ops o) fun L => Val (fun v => pureX P al m H0 H1 (flagB ops.size m an i) o (frameT L ts0.length 0) v) (fun v => forceV v fun v' => snocE vs1 v' fun vs' => ih (i + 1) vs')
                | true => snocE vs1 (.tp []) fun vs' => ih (i + 1) vs')
            | some (.tp _) => snocE vs (.tp []) fun vs' => ih (i + 1) vs'
            | _ => False
          | false => False) l i vs
theorem wdrawX_cons (i : Nat) (o : Oper) (r : List Oper) (vs : List VV) : wdrawX P ops ts0 al m an va H0 H1 K i (o :: r) vs = (match Nat.beq i m with
    | true => wtail P ops ts0 K i (o :: r) vs H1
    | false => match Nat.beq i al with
      | true => snocE vs va fun vs' => wdrawX P ops ts0 al m an va H0 H1 K (i + 1) r vs'
      | false => match o.guard with
        | none => envE i o ops.toList vs ts0 (readsOf ops o) fun L => Val (fun v => pureX P al m H0 H1 (flagB ops.size m an i) o (frameT L ts0.length 0) v) (fun v => forceV v fun v' => snocE vs v' fun vs' => wdrawX P ops ts0 al m an va H0 H1 K (i + 1) r vs')
        | some (j, want) => match waitsFor o.after.toList j with
          | true => match vs[j]? with
            | some (.sc (.bool b)) => ifB b
              (setE vs j (.sc (.bool true)) fun vs1 => match want with
                | true => envE i o ops.toList vs1 ts0 (readsOf ops o) fun L => Val (fun v => pureX P al m H0 H1 (flagB ops.size m an i) o (frameT L ts0.length 0) v) (fun v => forceV v fun v' => snocE vs1 v' fun vs' => wdrawX P ops ts0 al m an va H0 H1 K (i + 1) r vs')
                | false => snocE vs1 (.tp []) fun vs' => wdrawX P ops ts0 al m an va H0 H1 K (i + 1) r vs')
              (setE vs j (.sc (.bool false)) fun vs1 => match want with
                | false => envE i o ops.toList vs1 ts0 (readsOf ops o) fun L => Val (fun v => pureX P al m H0 H1 (flagB ops.size m an i) o (frameT L ts0.length 0) v) (fun v => forceV v fun v' => snocE vs1 v' fun vs' => wdrawX P ops ts0 al m an va H0 H1 K (i + 1) r vs')
                | true => snocE vs1 (.tp []) fun vs' => wdrawX P ops ts0 al m an va H0 H1 K (i + 1) r vs')
            | some (.tp _) => snocE vs (.tp []) fun vs' => wdrawX P ops ts0 al m an va H0 H1 K (i + 1) r vs'
            | _ => False
          | false => False) := rfl
def PureF (g : Bool) (o : Oper) (ts : List VV) (v : VV) : Prop := match g with
  | false => ∀ Hx, VOne P o ts Hx (fun x K' => x = v ∧ K' = Hx)
  | true => VOne P o ts H0 (fun x K' => x = v ∧ K' = H0) ∧ (al < m → VOne P o ts H1 (fun x K' => x = v ∧ K' = H1))
def XFact (V : List VV) (G : Nat → Heap) (j : Nat) (o : Oper) : Prop := ∃ v, V[j]? = some v ∧ match decide (m ≤ j) with
  | true => VOne P o (tFor j o ops.toList 0 V ts0) (G j) (fun x K' => x = v ∧ K' = G (j + 1))
  | false => (j = al ∧ v = va) ∨ (j ≠ al ∧ ((vwanted ops o (tFor j o ops.toList 0 V ts0) = some false ∧ v = .tp []) ∨ (vwanted ops o (tFor j o ops.toList 0 V ts0) = some true ∧ PureF P al m H0 H1 (flagB ops.size m an j) o (tFor j o ops.toList 0 V ts0) v)))
theorem env_less (hnd : (dstsOf ops.toList).Nodup) (i : Nat) (o : Oper) (vs : List VV) (l : List Operand) (w : World) (Z : Nat → Prop) (ρ : Nat → Option (Nat × Nat)) (cs : List Value) (hp : Pw (VRel w Z ρ) (tFor i o ops.toList 0 vs ts0) cs) : Pw (VRel w Z ρ) (frameT (envL i o ops.toList vs ts0 l) ts0.length 0) cs := by
  have hl := (tFor_get i o ops.toList 0 vs ts0 hnd).1
  refine ⟨by rw [frameT_length, ← hl]; exact hp.1, fun k u x hu hx => ?_⟩
  simp only [frameT_get, Nat.zero_add] at hu
  split at hu
  · rename_i hk
    simp at hu
    rcases lookT_env i o ops.toList vs ts0 k l with e | e
    · rw [← hu, e]; exact .junk
    · rw [← hu, e]; exact hp.2 k _ x (tmpVal_eq hnd hk) hx
  · simp at hu
theorem tfor_more (hback : ∀ (i : Nat) (o : Oper), ops.toList[i]? = some o → ∀ e ∈ o.after.toList, bindsA e = true → e.on < i) {i : Nat} {o : Oper} (ho : ops.toList[i]? = some o) {vs V a : List VV} (hv : vs.length = i) (e : V = vs ++ a) : tFor i o ops.toList 0 vs ts0 = tFor i o ops.toList 0 V ts0 := tFor_vals _ _ _ _ _ fun m hm => by
  obtain ⟨ed, he, hon, hb⟩ := waitsFor_iff hm
  have := hback i o ho ed he hb
  rw [e, List.getElem?_append_left (by omega)]
theorem wtail_sound (hback : ∀ (i : Nat) (o : Oper), ops.toList[i]? = some o → ∀ e ∈ o.after.toList, bindsA e = true → e.on < i) (hnd : (dstsOf ops.toList).Nodup) : ∀ (r : List Oper) (i : Nat) (vs : List VV) (H : Heap), ops.toList.drop i = r → vs.length = i → i ≤ ops.size → wtail P ops ts0 K i r vs H →
    ∃ (V : List VV) (G : Nat → Heap), (∃ a, V = vs ++ a) ∧ V.length = ops.size ∧ G i = H ∧ K V (G ops.size) ∧ ∀ j o, i ≤ j → ops.toList[j]? = some o → ∃ v, V[j]? = some v ∧ VOne P o (tFor j o ops.toList 0 V ts0) (G j) (fun x K' => x = v ∧ K' = G (j + 1))
  | [], i, vs, H, hd, hv, hi, h => by
    have hle : ops.size ≤ i := by have := congrArg List.length hd; simp at this; omega
    refine ⟨vs, fun _ => H, ⟨[], by simp⟩, by omega, rfl, h, fun j o hj ho => ?_⟩
    have := (List.getElem?_eq_some_iff.1 ho).1
    simp at this
    omega
  | o :: r, i, vs, H, hd, hv, hi, h => by
    have ho : ops.toList[i]? = some o := by
      have := congrArg (fun l => l[0]?) hd
      simpa using this
    have hd' : ops.toList.drop (i + 1) = r := by rw [← List.drop_drop, hd]; rfl
    have hilt : i < ops.size := by have := (List.getElem?_eq_some_iff.1 ho).1; simpa using this
    rw [wtail_cons] at h
    rw [envE_eq] at h
    obtain ⟨v, H', h1, h2⟩ := h.out
    rw [forceV_eq, snocE_eq] at h2
    obtain ⟨V, G, ⟨a, ha⟩, hl, hG, hk, hq⟩ := wtail_sound hback hnd r (i + 1) (vs ++ [v]) H' hd' (by simp [hv]) hilt h2
    have hVi : V[i]? = some v := by rw [ha, List.append_assoc, List.getElem?_append_right (by omega)]; simp [hv]
    have hT : tFor i o ops.toList 0 vs ts0 = tFor i o ops.toList 0 V ts0 := tfor_more ops ts0 hback ho hv (a := v :: a) (by rw [ha]; simp)
    refine ⟨V, fun k => if k = i then H else G k, ⟨v :: a, by rw [ha]; simp⟩, hl, by simp, ?_, fun j x hj hx => ?_⟩
    · show K V (if ops.size = i then H else G ops.size)
      rw [if_neg (by omega)]; exact hk
    · by_cases e : j = i
      · subst e
        rw [ho] at hx; injection hx with hx; subst hx
        refine ⟨v, hVi, ?_⟩
        simp only [if_true, if_neg (show ¬ j + 1 = j by omega)]
        rw [← hT, hG]
        exact VOne.less (env_less ops ts0 hnd j o vs _) ((wone_sound h1).mono fun x K' q => ⟨q.val, q.heap⟩)
      · obtain ⟨u, g1, g2⟩ := hq j x (by omega) hx
        refine ⟨u, g1, ?_⟩
        simp only [if_neg e, if_neg (show ¬ j + 1 = i by omega)]
        exact g2
theorem pureX_sound {g : Bool} {o : Oper} {ts : List VV} {v : VV} (h : pureX P al m H0 H1 g o ts v) : PureF P al m H0 H1 g o ts v := by
  unfold pureX at h
  unfold PureF
  cases g with
  | false => exact fun Hx => (wone_sound (h Hx)).mono fun x K' q => ⟨q.val, q.heap⟩
  | true =>
    simp only at h ⊢
    split at h
    · exact ⟨(wone_sound h.1).mono fun x K' q => ⟨q.val, q.heap⟩, fun _ => (wone_sound h.2).mono fun x K' q => ⟨q.val, q.heap⟩⟩
    · rename_i hb
      refine ⟨(wone_sound h).mono fun x K' q => ⟨q.val, q.heap⟩, fun hlt => ?_⟩
      have : Nat.blt al m = true := blt_iff.2 hlt
      rw [this] at hb; cases hb
theorem PureF.less {g : Bool} {o : Oper} {ts ts1 : List VV} {v : VV} (ht : ∀ w Z ρ cs, Pw (VRel w Z ρ) ts cs → Pw (VRel w Z ρ) ts1 cs) (h : PureF P al m H0 H1 g o ts1 v) : PureF P al m H0 H1 g o ts v := by
  unfold PureF at *
  cases g with
  | false => exact fun Hx => VOne.less ht (h Hx)
  | true => exact ⟨VOne.less ht h.1, fun q => VOne.less ht (h.2 q)⟩
theorem wdrawX_sound (hback : ∀ (i : Nat) (o : Oper), ops.toList[i]? = some o → ∀ e ∈ o.after.toList, bindsA e = true → e.on < i) (hnd : (dstsOf ops.toList).Nodup) (hbd : ∀ (i : Nat) (o : Oper), ops.toList[i]? = some o → ∀ d, o.dst = some d → d < ts0.length) (hgd : ∀ (i : Nat) (o : Oper) (j : Nat) (w : Bool), ops.toList[i]? = some o → o.guard = some (j, w) → ((ops[j]?).bind (fun x : Oper => x.dst)).isSome = true) (hm : m ≤ ops.size) : ∀ (r : List Oper) (i : Nat) (vs : List VV), ops.toList.drop i = r → vs.length = i → i ≤ m → wdrawX P ops ts0 al m an va H0 H1 K i r vs →
    ∃ (V : List VV) (G : Nat → Heap), (∃ a, V = vs ++ a) ∧ V.length = ops.size ∧ G m = H1 ∧ K V (G ops.size) ∧ ∀ j o, i ≤ j → ops.toList[j]? = some o → XFact P ops ts0 al m an va H0 H1 V G j o := by
  have tail : ∀ (r : List Oper) (vs : List VV), ops.toList.drop m = r → vs.length = m → wtail P ops ts0 K m r vs H1 → ∃ (V : List VV) (G : Nat → Heap), (∃ a, V = vs ++ a) ∧ V.length = ops.size ∧ G m = H1 ∧ K V (G ops.size) ∧ ∀ j o, m ≤ j → ops.toList[j]? = some o → XFact P ops ts0 al m an va H0 H1 V G j o := by
    intro r vs hd hv h
    obtain ⟨V, G, ha, hl, hG, hk, hq⟩ := wtail_sound P ops ts0 K hback hnd r m vs H1 hd hv hm h
    refine ⟨V, G, ha, hl, hG, hk, fun j o hj ho => ?_⟩
    obtain ⟨v, g1, g2⟩ := hq j o hj ho
    refine ⟨v, g1, ?_⟩
    rw [decide_eq_true hj]
    exact g2
  intro r
  induction r with
  | nil =>
    intro i vs hd hv hi h
    have hle : ops.size ≤ i := by have := congrArg List.length hd; simp at this; omega
    have : i = m := by omega
    subst this
    exact tail [] vs hd hv h
  | cons o r ih =>
    intro i vs hd hv hi h
    have ho : ops.toList[i]? = some o := by
      have := congrArg (fun l => l[0]?) hd
      simpa using this
    have hd' : ops.toList.drop (i + 1) = r := by rw [← List.drop_drop, hd]; rfl
    rw [wdrawX_cons] at h
    rcases beq_cases i m with ⟨hb, e⟩ | ⟨hb, e⟩
    · rw [hb] at h
      subst e
      exact tail _ vs hd hv h
    rw [hb] at h
    simp only at h
    have hilt : i < m := by omega
    have hT : ∀ {V a : List VV}, V = vs ++ a → tFor i o ops.toList 0 vs ts0 = tFor i o ops.toList 0 V ts0 := fun e => tfor_more ops ts0 hback ho hv e
    have step : ∀ (v : VV), wdrawX P ops ts0 al m an va H0 H1 K (i + 1) r (vs ++ [v]) → (∀ V, tFor i o ops.toList 0 vs ts0 = tFor i o ops.toList 0 V ts0 → (i = al ∧ v = va) ∨ (i ≠ al ∧ ((vwanted ops o (tFor i o ops.toList 0 V ts0) = some false ∧ v = .tp []) ∨ (vwanted ops o (tFor i o ops.toList 0 V ts0) = some true ∧ PureF P al m H0 H1 (flagB ops.size m an i) o (tFor i o ops.toList 0 V ts0) v)))) →
        ∃ (V : List VV) (G : Nat → Heap), (∃ a, V = vs ++ a) ∧ V.length = ops.size ∧ G m = H1 ∧ K V (G ops.size) ∧ ∀ j o, i ≤ j → ops.toList[j]? = some o → XFact P ops ts0 al m an va H0 H1 V G j o := by
      intro v hw hf
      obtain ⟨V, G, ⟨a, ha⟩, hl, hG, hk, hq⟩ := ih (i + 1) (vs ++ [v]) hd' (by simp [hv]) hilt hw
      refine ⟨V, G, ⟨v :: a, by rw [ha]; simp⟩, hl, hG, hk, fun j x hj hx => ?_⟩
      by_cases e : j = i
      · subst e
        rw [ho] at hx; injection hx with hx; subst hx
        refine ⟨v, by rw [ha, List.append_assoc, List.getElem?_append_right (by omega)]; simp [hv], ?_⟩
        rw [decide_eq_false (by omega)]
        exact hf V (hT (a := v :: a) (by rw [ha]; simp))
      · exact hq j x (by omega) hx
    rcases beq_cases i al with ⟨hb2, e2⟩ | ⟨hb2, e2⟩
    · rw [hb2] at h
      simp only [snocE_eq] at h
      exact step va h fun V _ => .inl ⟨e2, rfl⟩
    rw [hb2] at h
    simp only at h
    have go : ∀ (hw : vwanted ops o (tFor i o ops.toList 0 vs ts0) = some true), (envE i o ops.toList vs ts0 (readsOf ops o) fun L => Val (fun v => pureX P al m H0 H1 (flagB ops.size m an i) o (frameT L ts0.length 0) v) (fun v => forceV v fun v' => snocE vs v' fun vs' => wdrawX P ops ts0 al m an va H0 H1 K (i + 1) r vs')) →
        ∃ (V : List VV) (G : Nat → Heap), (∃ a, V = vs ++ a) ∧ V.length = ops.size ∧ G m = H1 ∧ K V (G ops.size) ∧ ∀ j o, i ≤ j → ops.toList[j]? = some o → XFact P ops ts0 al m an va H0 H1 V G j o := by
      intro hw hg
      rw [envE_eq] at hg
      obtain ⟨v, h1, h2⟩ := hg.out
      rw [forceV_eq, snocE_eq] at h2
      refine step v h2 fun V e => .inr ⟨e2, .inr ⟨e ▸ hw, ?_⟩⟩
      rw [← e]
      exact PureF.less P al m H0 H1 (env_less ops ts0 hnd i o vs _) (pureX_sound P al m H0 H1 h1)
    have skip : ∀ (hw : vwanted ops o (tFor i o ops.toList 0 vs ts0) = some false), (snocE vs (.tp []) fun vs' => wdrawX P ops ts0 al m an va H0 H1 K (i + 1) r vs') →
        ∃ (V : List VV) (G : Nat → Heap), (∃ a, V = vs ++ a) ∧ V.length = ops.size ∧ G m = H1 ∧ K V (G ops.size) ∧ ∀ j o, i ≤ j → ops.toList[j]? = some o → XFact P ops ts0 al m an va H0 H1 V G j o := by
      intro hw hg
      rw [snocE_eq] at hg
      exact step _ hg fun V e => .inr ⟨e2, .inl ⟨e ▸ hw, rfl⟩⟩
    split at h
    · rename_i hg
      exact go (by simp [vwanted, hg]) h
    · rename_i j want hg
      split at h
      case h_2 => exact h.elim
      rename_i hwt
      have hgd' := hgd i o j want ho hg
      have hval : ∀ u, vs[j]? = some u → ∃ d, (ops[j]?).bind (·.dst) = some d ∧ (tFor i o ops.toList 0 vs ts0)[d]? = some u := fun u hu => by
        cases hd2 : (ops[j]?).bind (·.dst) with
        | none => rw [hd2] at hgd'; cases hgd'
        | some d =>
          refine ⟨d, rfl, ?_⟩
          cases hx : ops[j]? with
          | none => rw [hx] at hd2; cases hd2
          | some x =>
            rw [hx] at hd2
            have hx' : ops.toList[j]? = some x := by simpa using hx
            have hxd : x.dst = some d := hd2
            have := (tFor_get i o ops.toList 0 vs ts0 hnd).2.2 j d x hx' hxd (hbd j x hx' d hxd)
            rw [this, Nat.zero_add, hwt, hu]
            rfl
      split at h
      · rename_i b hb3
        obtain ⟨d, e1, e2⟩ := hval _ hb3
        simp only [setE_eq] at h
        cases b with
        | true =>
          simp only [ifB] at h
          rw [set_same hb3] at h
          cases want with
          | true => exact go (by simp [vwanted, hg, e1, e2]) h
          | false => exact skip (by simp [vwanted, hg, e1, e2]) h
        | false =>
          simp only [ifB] at h
          rw [set_same hb3] at h
          cases want with
          | false => exact go (by simp [vwanted, hg, e1, e2]) h
          | true => exact skip (by simp [vwanted, hg, e1, e2]) h
      · rename_i hb3
        obtain ⟨d, e1, e2⟩ := hval _ hb3
        exact skip (by simp [vwanted, hg, e1, e2]) h
      · exact h.elim
end
theorem cnt_range (al m i : Nat) (hi : m ≤ i) (ham : al < m ∨ ∀ n, al ≠ n ∨ m ≤ n) : True := trivial
/-- How many of the events are ahead of i. -/
theorem cnt_ev (al m i : Nat) (hi : m ≤ i) : ∀ n, cnt (fun j => ((Nat.beq j al && Nat.blt al m) || Nat.ble m j) && Nat.blt j i) n = (if al < m ∧ al < n then 1 else 0) + (min n i - m)
  | 0 => by simp [cnt]
  | n + 1 => by
    rw [cnt, cnt_ev al m i hi n]
    have e1 : Nat.beq n al = decide (n = al) := by
      rcases beq_cases n al with ⟨h, e⟩ | ⟨h, e⟩ <;> simp [h, e]
    have e2 : Nat.blt al m = decide (al < m) := by
      by_cases h : al < m
      · rw [decide_eq_true h]; exact blt_iff.2 h
      · rw [decide_eq_false h]
        cases hb : Nat.blt al m
        · rfl
        · exact absurd (blt_iff.1 hb) h
    have e3 : Nat.ble m n = decide (m ≤ n) := by
      by_cases h : m ≤ n
      · rw [decide_eq_true h]; exact Nat.ble_eq_true_of_le h
      · rw [decide_eq_false h]
        cases hb : Nat.ble m n
        · rfl
        · exact absurd (Nat.le_of_ble_eq_true hb) h
    have e4 : Nat.blt n i = decide (n < i) := by
      by_cases h : n < i
      · rw [decide_eq_true h]; exact blt_iff.2 h
      · rw [decide_eq_false h]
        cases hb : Nat.blt n i
        · rfl
        · exact absurd (blt_iff.1 hb) h
    rw [e1, e2, e3, e4]
    have f2 : (if al < m ∧ al < n + 1 then 1 else 0) = (if al < m ∧ al < n then 1 else 0) + (if n = al ∧ al < m then 1 else 0) := by
      (repeat' split) <;> omega
    have f3 : min (n + 1) i - m = (min n i - m) + (if m ≤ n ∧ n < i then 1 else 0) := by
      split <;> omega
    rw [f2, f3]
    cases hb : ((decide (n = al) && decide (al < m) || decide (m ≤ n)) && decide (n < i)) with
    | true =>
      simp only [Bool.and_eq_true, Bool.or_eq_true, decide_eq_true_eq] at hb
      show _ + 1 = _
      by_cases c1 : n = al ∧ al < m
      · rw [if_pos c1, if_neg (show ¬ (m ≤ n ∧ n < i) by omega)]; omega
      · rw [if_neg c1, if_pos (show m ≤ n ∧ n < i by omega)]; omega
    | false =>
      have hb : ¬ (((n = al ∧ al < m) ∨ m ≤ n) ∧ n < i) := fun q => by
        have : ((decide (n = al) && decide (al < m) || decide (m ≤ n)) && decide (n < i)) = true := by
          simp only [Bool.and_eq_true, Bool.or_eq_true, decide_eq_true_eq]; exact q
        rw [hb] at this; cases this
      show _ + 0 = _
      rw [if_neg (show ¬ (n = al ∧ al < m) by omega), if_neg (show ¬ (m ≤ n ∧ n < i) by omega)]; omega
def allocAt (P : Program) (ops : Array Oper) (al : Nat) (H : Heap) : Option (VV × Heap) := match ops.toList[al]? with
  | some o => match o.op, o.guard with
    | .alloc t, none => valloc P t H
    | _, _ => none
  | none => some (.junk, H)
def goX (P : Program) (ops : Array Oper) (ts0 : List VV) (al m : Nat) (H : Heap) (K : List VV → Heap → Prop) : Prop := match allocAt P ops al H with
  | some (va, H1) => forceNL (ancIn ops.toList m [m]) fun an => wdrawX P ops ts0 al m an va H H1 K 0 ops.toList []
  | none => False
/-- The rule. -/
theorem GWP.drawX {P : Program} {r : Option Nat} {id : Nat} {ops : Array Oper} {Q : Exit → VSt → Prop} {s : VSt} (hm : P.follows .mixedOrders = true) (al m n : Nat) (hb : (backN 0 ops.toList && nodupN (dstsOf ops.toList) && fitN n ops && tailB ops.toList al m && (Nat.blt al m || Nat.beq al ops.size)) = true) (hlen : s.tmps.length = n)
    (h : match s with | ⟨ts0, H, md⟩ => goX P ops ts0 al m H (fun V H' => tAllE ops.toList V ts0 fun ts => Q .normal ⟨ts, H', md⟩)) : GWP P r (.region id ops true) Q s := ⟨by
  obtain ⟨ts0, H, md⟩ := s
  simp only [Bool.and_eq_true] at hb
  obtain ⟨⟨⟨⟨hb1, hb2⟩, hb3⟩, hb4⟩, hb5⟩ := hb
  have hback : ∀ i o, ops.toList[i]? = some o → ∀ e ∈ o.after.toList, bindsA e = true → e.on < i := fun i o ho e he hbe => by
    have := backN_iff hb1 i o ho e he hbe
    omega
  have hlen : ts0.length = n := hlen
  have hfit : ∀ (i : Nat) (o : Oper), ops.toList[i]? = some o → (∀ d, o.dst = some d → d < ts0.length) ∧ ∀ (j : Nat) (w : Bool), o.guard = some (j, w) → ((ops[j]?).bind (fun x : Oper => x.dst)).isSome = true := fun i o ho => by
    have := List.all_eq_true.1 hb3 o (List.mem_of_getElem? ho)
    simp only [Bool.and_eq_true] at this
    refine ⟨fun d hd => ?_, fun j w hg => ?_⟩
    · have h1 := this.1
      rw [hd] at h1
      rw [hlen]
      exact Nat.le_of_ble_eq_true h1
    · have h1 := this.2
      rw [hg] at h1
      exact h1
  have hta := tail_anc hb4
  have hmle : m ≤ ops.size := by
    have := hb4
    simp only [tailB, Bool.or_eq_true, Bool.and_eq_true] at this
    rcases this with this | this
    · have := Nat.eq_of_beq_eq_true this
      simp at this
      omega
    · have := Nat.le_of_ble_eq_true this.1.1.1
      simpa using this
  have hnog : ∀ i o, m ≤ i → ops.toList[i]? = some o → o.guard = none := fun i o hi ho => by
    have := hb4
    simp only [tailB, Bool.or_eq_true, Bool.and_eq_true] at this
    rcases this with this | this
    · have h1 := Nat.eq_of_beq_eq_true this
      have h2 := (List.getElem?_eq_some_iff.1 ho).1
      omega
    have h1 := List.all_eq_true.1 this.1.2 o (List.mem_of_getElem? (i := i - m) (by rw [List.getElem?_drop, show m + (i - m) = i by omega]; exact ho))
    simpa using h1
  have h : goX P ops ts0 al m H (fun V H' => tAllE ops.toList V ts0 fun ts => Q .normal ⟨ts, H', md⟩) := h
  unfold goX at h
  split at h
  case h_2 => exact h.elim
  rename_i va H1 hal
  rw [forceNL_eq] at h
  obtain ⟨V, G, _, hl, hG, hk, hq⟩ := wdrawX_sound P ops ts0 al m (ancIn ops.toList m [m]) va H H1 _ hback (nodup_of hb2) (fun i o ho => (hfit i o ho).1) (fun i o j w ho => (hfit i o ho).2 j w) hmle ops.toList 0 [] rfl rfl (Nat.zero_le _) h
  rw [tAllE_eq] at hk
  have hblt : Nat.blt al m = decide (al < m) := by
    by_cases h : al < m
    · rw [decide_eq_true h]; exact blt_iff.2 h
    · rw [decide_eq_false h]
      cases hb : Nat.blt al m
      · rfl
      · exact absurd (blt_iff.1 hb) h
  have halw : al < m ∨ (ops.size ≤ al ∧ H1 = H) := by
    simp only [Bool.or_eq_true] at hb5
    rcases hb5 with h5 | h5
    · exact .inl (blt_iff.1 h5)
    · have h5 := Nat.eq_of_beq_eq_true h5
      refine .inr ⟨by omega, ?_⟩
      unfold allocAt at hal
      rw [List.getElem?_eq_none (by simp; omega)] at hal
      simp at hal
      exact hal.2.symm
  have halo : al < m → ∃ o, ops.toList[al]? = some o ∧ o.guard = none ∧ ∀ ts, vop P o ts H = some (va, H1) := fun hlt => by
    unfold allocAt at hal
    rw [List.getElem?_eq_getElem (show al < ops.toList.length by simp; omega)] at hal
    simp only at hal
    split at hal
    · rename_i t ho hg
      exact ⟨_, List.getElem?_eq_getElem _, hg, fun ts => by simp only [vop, ho]; exact hal⟩
    · cases hal
  -- the heap behind so many events
  have hcnt := fun i hi => cnt_ev al m i hi ops.size
  have hcntA : cnt (fun j => (Nat.beq j al && Nat.blt al m) || Nat.ble m j) ops.size = (if al < m then 1 else 0) + (ops.size - m) := by
    have h1 := hcnt ops.size hmle
    have h2 : cnt (fun j => ((Nat.beq j al && Nat.blt al m) || Nat.ble m j) && Nat.blt j ops.size) ops.size = cnt (fun j => (Nat.beq j al && Nat.blt al m) || Nat.ble m j) ops.size := cnt_congr fun j hj => by
      have : Nat.blt j ops.size = true := blt_iff.2 hj
      rw [this, Bool.and_true]
    rw [← h2, h1]
    by_cases c : al < m
    · rw [if_pos ⟨c, by omega⟩, if_pos c]; omega
    · rw [if_neg (by omega), if_neg c]; omega
  refine VWP.draw (vals := V) (G := fun c => if al < m then (if c = 0 then H else G (m + (c - 1))) else G (m + c)) (ev := fun j => (Nat.beq j al && Nat.blt al m) || Nat.ble m j) hm
    ⟨by simpa using hl.symm, nodup_of hb2, hback, fun i j hi h1 h2 hji => ?_, fun i o ho hw => ?_, fun i o ho => ?_, fun i o v ho hw hev hv => ?_, fun i o v p ho hw hev hv hA hD => ?_⟩ ?_ ?_
  · -- order
    have him : m ≤ i := by
      rcases Bool.or_eq_true_iff.1 h1 with q | q
      · rcases Bool.or_eq_true_iff.1 h2 with q2 | q2
        · simp only [Bool.and_eq_true] at q q2
          have := Nat.eq_of_beq_eq_true q.1
          have := Nat.eq_of_beq_eq_true q2.1
          omega
        · simp only [Bool.and_eq_true] at q
          have := Nat.eq_of_beq_eq_true q.1
          have := Nat.le_of_ble_eq_true q2
          have := blt_iff.1 q.2
          omega
      · exact Nat.le_of_ble_eq_true q
    have := hta (i - m) j (by simp; omega) (by omega) fun hjm => by
      rcases Bool.or_eq_true_iff.1 h2 with q2 | q2
      · simp only [Bool.and_eq_true] at q2
        have e := Nat.eq_of_beq_eq_true q2.1
        have h5 := hb4
        simp only [tailB, Bool.or_eq_true, Bool.and_eq_true] at h5
        rcases h5 with h5 | h5
        · have := Nat.eq_of_beq_eq_true h5; simp at this; omega
        · rcases h5.2 with h6 | h6
          · rw [e]; exact memN_iff.1 h6
          · have := Nat.eq_of_beq_eq_true h6; simp at this; omega
      · have := Nat.le_of_ble_eq_true q2; omega
    rwa [show m + (i - m) = i by omega] at this
  · -- skip
    obtain ⟨v, h1, h2⟩ := hq i o (Nat.zero_le _) ho
    have hil : i < ops.size := by have := (List.getElem?_eq_some_iff.1 ho).1; simpa using this
    by_cases hmi : m ≤ i
    · have := hnog i o hmi ho
      simp [vwanted, this] at hw
    · rw [decide_eq_false hmi] at h2
      rcases h2 with ⟨e, _⟩ | ⟨ne, ⟨_, rfl⟩ | ⟨h2, _⟩⟩
      · subst e
        obtain ⟨o2, g1, g2, _⟩ := halo (by omega)
        rw [ho] at g1; injection g1 with g1; subst g1
        simp [vwanted, g2] at hw
      · refine ⟨h1, ?_⟩
        rw [Bool.or_eq_false_iff]
        constructor
        · rw [Bool.and_eq_false_iff]
          by_cases e : i = al
          · subst e
            right
            cases hbb : Nat.blt i m
            · rfl
            · obtain ⟨o2, g1, g2, _⟩ := halo (blt_iff.1 hbb)
              rw [ho] at g1; injection g1 with g1; subst g1
              simp [vwanted, g2] at hw
          · left
            rcases beq_cases i al with ⟨_, e2⟩ | ⟨h3, _⟩
            · exact absurd e2 e
            · exact h3
        · cases hbb : Nat.ble m i
          · rfl
          · exact absurd (Nat.le_of_ble_eq_true hbb) hmi
      · rw [hw] at h2; simp at h2
  · -- wanted is known
    obtain ⟨v, h1, h2⟩ := hq i o (Nat.zero_le _) ho
    by_cases hmi : m ≤ i
    · simp [vwanted, hnog i o hmi ho]
    · rw [decide_eq_false hmi] at h2
      rcases h2 with ⟨e, _⟩ | ⟨ne, ⟨h2, _⟩ | ⟨h2, _⟩⟩
      · subst e
        obtain ⟨o2, g1, g2, _⟩ := halo (by omega)
        rw [ho] at g1; injection g1 with g1; subst g1
        simp [vwanted, g2]
      · rw [h2]; simp
      · rw [h2]; simp
  · -- events
    obtain ⟨u, h1, h2⟩ := hq i o (Nat.zero_le _) ho
    rw [hv] at h1; injection h1 with h1; subst h1
    have hil : i < ops.size := by have := (List.getElem?_eq_some_iff.1 ho).1; simpa using this
    by_cases hmi : m ≤ i
    · rw [decide_eq_true hmi] at h2
      simp only at h2
      have hc := hcnt i hmi
      have hmin : min ops.size i = i := by omega
      rw [hmin] at hc
      rw [hc]
      by_cases c : al < m
      · simp only [if_pos c, if_pos (And.intro c (show al < ops.size by omega))]
        rw [if_neg (by omega), if_neg (by omega), show m + (1 + (i - m) - 1) = i by omega, show m + (1 + (i - m) + 1 - 1) = i + 1 by omega]
        exact h2
      · simp only [if_neg c, if_neg (show ¬ (al < m ∧ al < ops.size) by omega)]
        rw [show m + (0 + (i - m)) = i by omega, show m + (0 + (i - m) + 1) = i + 1 by omega]
        exact h2
    · have hia : i = al ∧ al < m := by
        rcases Bool.or_eq_true_iff.1 hev with q | q
        · simp only [Bool.and_eq_true] at q
          exact ⟨Nat.eq_of_beq_eq_true q.1, blt_iff.1 q.2⟩
        · exact absurd (Nat.le_of_ble_eq_true q) hmi
      obtain ⟨rfl, hlt⟩ := hia
      obtain ⟨o2, g1, g2, g3⟩ := halo hlt
      rw [ho] at g1; injection g1 with g1; subst g1
      rw [decide_eq_false hmi] at h2
      have hc0 : cnt (fun j => ((Nat.beq j i && Nat.blt i m) || Nat.ble m j) && Nat.blt j i) ops.size = 0 := by
        rw [cnt_congr (g := fun _ => false) fun j hj => ?_]
        · exact cnt_false _
        · cases hbb : Nat.blt j i
          · simp
          · have hji := blt_iff.1 hbb
            have e1 : Nat.beq j i = false := by
              rcases beq_cases j i with ⟨_, e⟩ | ⟨h3, _⟩
              · omega
              · exact h3
            have e2 : Nat.ble m j = false := by
              cases hq2 : Nat.ble m j
              · rfl
              · have := Nat.le_of_ble_eq_true hq2; omega
            simp [e1, e2]
      rw [hc0]
      simp only [if_pos hlt, if_true]
      rw [if_neg (by omega), show m + (0 + 1 - 1) = m by omega, hG]
      have hvv : v = va := by
        rcases h2 with ⟨_, e⟩ | ⟨ne, _⟩
        · exact e
        · exact absurd rfl ne
      subst hvv
      exact VOne.plain (g3 _)
  · -- the others
    obtain ⟨u, h1, h2⟩ := hq i o (Nat.zero_le _) ho
    rw [hv] at h1; injection h1 with h1; subst h1
    rcases Bool.or_eq_false_iff.1 hev with ⟨k1, k2⟩
    have hmi : ¬ m ≤ i := fun hh => by rw [Nat.ble_eq_true_of_le hh] at k2; cases k2
    rw [decide_eq_false hmi] at h2
    rcases h2 with ⟨e, _⟩ | ⟨ne, ⟨h2, _⟩ | ⟨_, q⟩⟩
    · subst e
      have hlt : i < m := by omega
      rw [hblt, decide_eq_true hlt, Bool.and_true] at k1
      simp [Nat.beq_refl] at k1
    · rw [hw] at h2; simp at h2
    · unfold PureF at q
      cases hfl : flagB ops.size m (ancIn ops.toList m [m]) i with
      | false => rw [hfl] at q; exact q _
      | true =>
        rw [hfl] at q
        obtain ⟨q1, q2⟩ := q
        have hd := hD (fun j => Nat.ble m j && Nat.blt j ops.size) fun j hj => by
          simp only [Bool.and_eq_true] at hj
          have hmj := Nat.le_of_ble_eq_true hj.1
          have hjs := blt_iff.1 hj.2
          refine ⟨by simp [hj.1], ?_⟩
          have := hta (j - m) i (by simp; omega) (by omega) fun _ => by
            unfold flagB at hfl
            split at hfl
            · rename_i hbq
              have := Nat.eq_of_beq_eq_true hbq
              omega
            · exact memN_iff.1 hfl
          rwa [show m + (j - m) = j by omega] at this
        have hcd : cnt (fun j => Nat.ble m j && Nat.blt j ops.size) ops.size = ops.size - m := by
          have h3 := cnt_ev ops.size m ops.size hmle ops.size
          rw [if_neg (by omega)] at h3
          rw [show ops.size - m = 0 + (min ops.size ops.size - m) by omega, ← h3]
          refine cnt_congr fun j hj => ?_
          have : Nat.blt ops.size m = false := by
            cases hbb : Nat.blt ops.size m
            · rfl
            · have := blt_iff.1 hbb; omega
          simp [this]
        rw [hcd, hcntA] at hd
        by_cases c : al < m
        · simp only [if_pos c] at hd ⊢
          by_cases hp : p = 0
          · simp only [if_pos hp]; exact q1
          · have : p = 1 := by omega
            subst this
            simp only [if_neg (show ¬ (1 : Nat) = 0 by omega), Nat.sub_self, Nat.add_zero, hG]
            exact q2 c
        · simp only [if_neg c] at hd ⊢
          have : p = 0 := by omega
          subst this
          rcases halw with q | ⟨_, e⟩
          · exact absurd q c
          · rw [Nat.add_zero, hG, e]; exact q1
  · -- the first heap
    by_cases c : al < m
    · simp only [if_pos c, if_true]
    · simp only [if_neg c, Nat.add_zero, hG]
      rcases halw with q | ⟨_, e⟩
      · exact absurd q c
      · exact e
  · -- the last
    rw [hcntA]
    by_cases c : al < m
    · simp only [if_pos c]
      by_cases hz : 1 + (ops.size - m) = 0
      · omega
      · rw [if_neg hz, show m + (1 + (ops.size - m) - 1) = ops.size by omega]; exact hk
    · simp only [if_neg c]
      rw [show m + (0 + (ops.size - m)) = ops.size by omega]; exact hk⟩
/-- The first operation that makes a variable; the first that writes. -/
def firstAl : List Oper → Nat
  | [] => 0
  | o :: r => match o.op with
    | .alloc _ => 0
    | _ => firstAl r + 1
def evOp (o : Op) : Bool := match o with
  | .store _ _ _ => true
  | .makeSlice _ _ _ => true
  | .box _ _ => true
  | .call ⟨.builtin .append, _, _⟩ => true
  | .call ⟨.builtin .copy, _, _⟩ => true
  | _ => false
def firstEv : List Oper → Nat
  | [] => 0
  | o :: r => match evOp o.op with
    | true => 0
    | false => firstEv r + 1
theorem GWP.drawY {P : Program} {r : Option Nat} {id : Nat} {ops : Array Oper} {Q : Exit → VSt → Prop} {s : VSt} (hm : P.follows .mixedOrders = true) (n : Nat) (hb : (backN 0 ops.toList && nodupN (dstsOf ops.toList) && fitN n ops && tailB ops.toList (firstAl ops.toList) (firstEv ops.toList) && (Nat.blt (firstAl ops.toList) (firstEv ops.toList) || Nat.beq (firstAl ops.toList) ops.size)) = true) (hlen : s.tmps.length = n)
    (h : match s with | ⟨ts0, H, md⟩ => goX P ops ts0 (firstAl ops.toList) (firstEv ops.toList) H (fun V H' => tAllE ops.toList V ts0 fun ts => Q .normal ⟨ts, H', md⟩)) : GWP P r (.region id ops true) Q s := GWP.drawX hm _ _ n hb hlen h
end Go.Proofs.Ytbnemkdkeaiaoaa
