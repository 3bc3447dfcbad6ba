/- Drawn regions with one event of any kind (a call, say) ahead of a tail. -/
import Derived.Test.YtbnemkdkeaiaoaaVh
namespace Go.Proofs.Ytbnemkdkeaiaoaa
open Go Go.RowKit
set_option linter.unusedSimpArgs false
set_option linter.unusedVariables false
section
variable (P : Program) (ops : Array Oper) (ts0 : List VV) (al m : Nat) (an : List Nat) (va : VV) (H0 H1 : Heap) (K : List VV → Heap → Prop)
def wdrawC (i : Nat) (l : List Oper) (vs : List VV) : Prop :=
  List.rec (motive := fun _ => Nat → List VV → Prop) (fun i vs => wtail P ops ts0 K i [] vs H1) (fun o r ih i vs => match Nat.beq i m with
    | true => wtail P ops ts0 K i (o :: r) vs H1
    | false => match Nat.beq i al with
      | true => match o.guard with
        | none => envE i o ops.toList vs ts0 (readsOf ops o) fun L => And (wone P o (frameT L ts0.length 0) H0 fun x K' => Is x va K' H1) (snocE vs va fun vs' => ih (i + 1) vs')
        | some _ => False
      | false => match o.guard with
        | none => envE i o ops.toList vs ts0 (readsOf ops o) fun L => Val (fun v => pureX P al m H0 H1 (flagB ops.size m an i) o (frameT L ts0.length 0) v) (fun v => forceV v fun v' => snocE vs v' fun vs' => ih (i + 1) vs')
        | some (j, want) => match waitsFor o.after.toList j with
          | true => match vs[j]? with
            | some (.sc (.bool b)) => ifB b
              (setE vs j (.sc (.bool true)) fun vs1 => match want with
                | true => envE i o ops.toList vs1 ts0 (readsOf ops o) fun L => Val (fun v => pureX P al m H0 H1 (flagB ops.size m an i) o (frameT L ts0.length 0) v) (fun v => forceV v fun v' => snocE vs1 v' fun vs' => ih (i + 1) vs')
                | false => snocE vs1 (.tp []) fun vs' => ih (i + 1) vs')
              (setE vs j (.sc (.bool false)) fun vs1 => match want with
                | false => envE i o ops.toList vs1 ts0 (readsOf ops o) fun L => Val (fun v => pureX P al m H0 H1 (flagB ops.size m an i) o (frameT L ts0.length 0) v) (fun v => forceV v fun v' => snocE vs1 v' fun vs' => ih (i + 1) vs')
                | true => snocE vs1 (.tp []) fun vs' => ih (i + 1) vs')
            | some (.tp _) => snocE vs (.tp []) fun vs' => ih (i + 1) vs'
            | _ => False
          | false => False) l i vs
theorem wdrawC_cons (i : Nat) (o : Oper) (r : List Oper) (vs : List VV) : wdrawC P ops ts0 al m an va H0 H1 K i (o :: r) vs = (match Nat.beq i m with
    | true => wtail P ops ts0 K i (o :: r) vs H1
    | false => match Nat.beq i al with
      | true => match o.guard with
        | none => envE i o ops.toList vs ts0 (readsOf ops o) fun L => And (wone P o (frameT L ts0.length 0) H0 fun x K' => Is x va K' H1) (snocE vs va fun vs' => wdrawC P ops ts0 al m an va H0 H1 K (i + 1) r vs')
        | some _ => False
      | false => match o.guard with
        | none => envE i o ops.toList vs ts0 (readsOf ops o) fun L => Val (fun v => pureX P al m H0 H1 (flagB ops.size m an i) o (frameT L ts0.length 0) v) (fun v => forceV v fun v' => snocE vs v' fun vs' => wdrawC P ops ts0 al m an va H0 H1 K (i + 1) r vs')
        | some (j, want) => match waitsFor o.after.toList j with
          | true => match vs[j]? with
            | some (.sc (.bool b)) => ifB b
              (setE vs j (.sc (.bool true)) fun vs1 => match want with
                | true => envE i o ops.toList vs1 ts0 (readsOf ops o) fun L => Val (fun v => pureX P al m H0 H1 (flagB ops.size m an i) o (frameT L ts0.length 0) v) (fun v => forceV v fun v' => snocE vs1 v' fun vs' => wdrawC P ops ts0 al m an va H0 H1 K (i + 1) r vs')
                | false => snocE vs1 (.tp []) fun vs' => wdrawC P ops ts0 al m an va H0 H1 K (i + 1) r vs')
              (setE vs j (.sc (.bool false)) fun vs1 => match want with
                | false => envE i o ops.toList vs1 ts0 (readsOf ops o) fun L => Val (fun v => pureX P al m H0 H1 (flagB ops.size m an i) o (frameT L ts0.length 0) v) (fun v => forceV v fun v' => snocE vs1 v' fun vs' => wdrawC P ops ts0 al m an va H0 H1 K (i + 1) r vs')
                | true => snocE vs1 (.tp []) fun vs' => wdrawC P ops ts0 al m an va H0 H1 K (i + 1) r vs')
            | some (.tp _) => snocE vs (.tp []) fun vs' => wdrawC P ops ts0 al m an va H0 H1 K (i + 1) r vs'
            | _ => False
          | false => False) := rfl
def CFact (V : List VV) (G : Nat → Heap) (j : Nat) (o : Oper) : Prop := ∃ v, V[j]? = some v ∧ match decide (m ≤ j) with
  | true => VOne P o (tFor j o ops.toList 0 V ts0) (G j) (fun x K' => x = v ∧ K' = G (j + 1))
  | false => (j = al ∧ v = va ∧ o.guard = none ∧ VOne P o (tFor j o ops.toList 0 V ts0) H0 (fun x K' => x = va ∧ K' = H1)) ∨ (j ≠ al ∧ ((vwanted ops o (tFor j o ops.toList 0 V ts0) = some false ∧ v = .tp []) ∨ (vwanted ops o (tFor j o ops.toList 0 V ts0) = some true ∧ PureF P al m H0 H1 (flagB ops.size m an j) o (tFor j o ops.toList 0 V ts0) v)))
theorem wdrawC_sound (hback : ∀ (i : Nat) (o : Oper), ops.toList[i]? = some o → ∀ e ∈ o.after.toList, bindsA e = true → e.on < i) (hnd : (dstsOf ops.toList).Nodup) (hbd : ∀ (i : Nat) (o : Oper), ops.toList[i]? = some o → ∀ d, o.dst = some d → d < ts0.length) (hgd : ∀ (i : Nat) (o : Oper) (j : Nat) (w : Bool), ops.toList[i]? = some o → o.guard = some (j, w) → ((ops[j]?).bind (fun x : Oper => x.dst)).isSome = true) (hm : m ≤ ops.size) : ∀ (r : List Oper) (i : Nat) (vs : List VV), ops.toList.drop i = r → vs.length = i → i ≤ m → wdrawC P ops ts0 al m an va H0 H1 K i r vs →
    ∃ (V : List VV) (G : Nat → Heap), (∃ a, V = vs ++ a) ∧ V.length = ops.size ∧ G m = H1 ∧ K V (G ops.size) ∧ ∀ j o, i ≤ j → ops.toList[j]? = some o → CFact P ops ts0 al m an va H0 H1 V G j o := by
  have tail : ∀ (r : List Oper) (vs : List VV), ops.toList.drop m = r → vs.length = m → wtail P ops ts0 K m r vs H1 → ∃ (V : List VV) (G : Nat → Heap), (∃ a, V = vs ++ a) ∧ V.length = ops.size ∧ G m = H1 ∧ K V (G ops.size) ∧ ∀ j o, m ≤ j → ops.toList[j]? = some o → CFact P ops ts0 al m an va H0 H1 V G j o := by
    intro r vs hd hv h
    obtain ⟨V, G, ha, hl, hG, hk, hq⟩ := wtail_sound P ops ts0 K hback hnd r m vs H1 hd hv hm h
    refine ⟨V, G, ha, hl, hG, hk, fun j o hj ho => ?_⟩
    obtain ⟨v, g1, g2⟩ := hq j o hj ho
    refine ⟨v, g1, ?_⟩
    rw [decide_eq_true hj]
    exact g2
  intro r
  induction r with
  | nil =>
    intro i vs hd hv hi h
    have hle : ops.size ≤ i := by have := congrArg List.length hd; simp at this; omega
    have : i = m := by omega
    subst this
    exact tail [] vs hd hv h
  | cons o r ih =>
    intro i vs hd hv hi h
    have ho : ops.toList[i]? = some o := by
      have := congrArg (fun l => l[0]?) hd
      simpa using this
    have hd' : ops.toList.drop (i + 1) = r := by rw [← List.drop_drop, hd]; rfl
    rw [wdrawC_cons] at h
    rcases beq_cases i m with ⟨hb, e⟩ | ⟨hb, e⟩
    · rw [hb] at h
      subst e
      exact tail _ vs hd hv h
    rw [hb] at h
    simp only at h
    have hilt : i < m := by omega
    have hT : ∀ {V a : List VV}, V = vs ++ a → tFor i o ops.toList 0 vs ts0 = tFor i o ops.toList 0 V ts0 := fun e => tfor_more ops ts0 hback ho hv e
    have step : ∀ (v : VV), wdrawC P ops ts0 al m an va H0 H1 K (i + 1) r (vs ++ [v]) → (∀ V, tFor i o ops.toList 0 vs ts0 = tFor i o ops.toList 0 V ts0 → (i = al ∧ v = va ∧ o.guard = none ∧ VOne P o (tFor i o ops.toList 0 V ts0) H0 (fun x K' => x = va ∧ K' = H1)) ∨ (i ≠ al ∧ ((vwanted ops o (tFor i o ops.toList 0 V ts0) = some false ∧ v = .tp []) ∨ (vwanted ops o (tFor i o ops.toList 0 V ts0) = some true ∧ PureF P al m H0 H1 (flagB ops.size m an i) o (tFor i o ops.toList 0 V ts0) v)))) →
        ∃ (V : List VV) (G : Nat → Heap), (∃ a, V = vs ++ a) ∧ V.length = ops.size ∧ G m = H1 ∧ K V (G ops.size) ∧ ∀ j o, i ≤ j → ops.toList[j]? = some o → CFact P ops ts0 al m an va H0 H1 V G j o := by
      intro v hw hf
      obtain ⟨V, G, ⟨a, ha⟩, hl, hG, hk, hq⟩ := ih (i + 1) (vs ++ [v]) hd' (by simp [hv]) hilt hw
      refine ⟨V, G, ⟨v :: a, by rw [ha]; simp⟩, hl, hG, hk, fun j x hj hx => ?_⟩
      by_cases e : j = i
      · subst e
        rw [ho] at hx; injection hx with hx; subst hx
        refine ⟨v, by rw [ha, List.append_assoc, List.getElem?_append_right (by omega)]; simp [hv], ?_⟩
        rw [decide_eq_false (by omega)]
        exact hf V (hT (a := v :: a) (by rw [ha]; simp))
      · exact hq j x (by omega) hx
    rcases beq_cases i al with ⟨hb2, e2⟩ | ⟨hb2, e2⟩
    · rw [hb2] at h
      simp only at h
      split at h
      case h_2 => exact h.elim
      rename_i hgn
      rw [envE_eq] at h
      obtain ⟨h1, h2⟩ := h
      rw [snocE_eq] at h2
      refine step va h2 fun V e => .inl ⟨e2, rfl, hgn, ?_⟩
      rw [← e]
      exact VOne.less (env_less ops ts0 hnd i o vs _) ((wone_sound h1).mono fun x K' q => ⟨q.val, q.heap⟩)
    rw [hb2] at h
    simp only at h
    have go : ∀ (hw : vwanted ops o (tFor i o ops.toList 0 vs ts0) = some true), (envE i o ops.toList vs ts0 (readsOf ops o) fun L => Val (fun v => pureX P al m H0 H1 (flagB ops.size m an i) o (frameT L ts0.length 0) v) (fun v => forceV v fun v' => snocE vs v' fun vs' => wdrawC P ops ts0 al m an va H0 H1 K (i + 1) r vs')) →
        ∃ (V : List VV) (G : Nat → Heap), (∃ a, V = vs ++ a) ∧ V.length = ops.size ∧ G m = H1 ∧ K V (G ops.size) ∧ ∀ j o, i ≤ j → ops.toList[j]? = some o → CFact P ops ts0 al m an va H0 H1 V G j o := by
      intro hw hg
      rw [envE_eq] at hg
      obtain ⟨v, h1, h2⟩ := hg.out
      rw [forceV_eq, snocE_eq] at h2
      refine step v h2 fun V e => .inr ⟨e2, .inr ⟨e ▸ hw, ?_⟩⟩
      rw [← e]
      exact PureF.less P al m H0 H1 (env_less ops ts0 hnd i o vs _) (pureX_sound P al m H0 H1 h1)
    have skip : ∀ (hw : vwanted ops o (tFor i o ops.toList 0 vs ts0) = some false), (snocE vs (.tp []) fun vs' => wdrawC P ops ts0 al m an va H0 H1 K (i + 1) r vs') →
        ∃ (V : List VV) (G : Nat → Heap), (∃ a, V = vs ++ a) ∧ V.length = ops.size ∧ G m = H1 ∧ K V (G ops.size) ∧ ∀ j o, i ≤ j → ops.toList[j]? = some o → CFact P ops ts0 al m an va H0 H1 V G j o := by
      intro hw hg
      rw [snocE_eq] at hg
      exact step _ hg fun V e => .inr ⟨e2, .inl ⟨e ▸ hw, rfl⟩⟩
    split at h
    · rename_i hg
      exact go (by simp [vwanted, hg]) h
    · rename_i j want hg
      split at h
      case h_2 => exact h.elim
      rename_i hwt
      have hgd' := hgd i o j want ho hg
      have hval : ∀ u, vs[j]? = some u → ∃ d, (ops[j]?).bind (·.dst) = some d ∧ (tFor i o ops.toList 0 vs ts0)[d]? = some u := fun u hu => by
        cases hd2 : (ops[j]?).bind (·.dst) with
        | none => rw [hd2] at hgd'; cases hgd'
        | some d =>
          refine ⟨d, rfl, ?_⟩
          cases hx : ops[j]? with
          | none => rw [hx] at hd2; cases hd2
          | some x =>
            rw [hx] at hd2
            have hx' : ops.toList[j]? = some x := by simpa using hx
            have hxd : x.dst = some d := hd2
            have := (tFor_get i o ops.toList 0 vs ts0 hnd).2.2 j d x hx' hxd (hbd j x hx' d hxd)
            rw [this, Nat.zero_add, hwt, hu]
            rfl
      split at h
      · rename_i b hb3
        obtain ⟨d, e1, e2⟩ := hval _ hb3
        simp only [setE_eq] at h
        cases b with
        | true =>
          simp only [ifB] at h
          rw [set_same hb3] at h
          cases want with
          | true => exact go (by simp [vwanted, hg, e1, e2]) h
          | false => exact skip (by simp [vwanted, hg, e1, e2]) h
        | false =>
          simp only [ifB] at h
          rw [set_same hb3] at h
          cases want with
          | false => exact go (by simp [vwanted, hg, e1, e2]) h
          | true => exact skip (by simp [vwanted, hg, e1, e2]) h
      · rename_i hb3
        obtain ⟨d, e1, e2⟩ := hval _ hb3
        exact skip (by simp [vwanted, hg, e1, e2]) h
      · exact h.elim
end
theorem GWP.drawC {P : Program} {r : Option Nat} {id : Nat} {ops : Array Oper} {Q : Exit → VSt → Prop} {s : VSt} (hm : P.follows .mixedOrders = true) (al m n : Nat) (va : VV) (H1 : Heap) (hb : (backN 0 ops.toList && nodupN (dstsOf ops.toList) && fitN n ops && tailB ops.toList al m && Nat.blt al m) = true) (hlen : s.tmps.length = n)
    (h : match s with | ⟨ts0, H, md⟩ => forceNL (ancIn ops.toList m [m]) fun an => wdrawC P ops ts0 al m an va H H1 (fun V H' => tAllE ops.toList V ts0 fun ts => Q .normal ⟨ts, H', md⟩) 0 ops.toList []) : GWP P r (.region id ops true) Q s := ⟨by
  obtain ⟨ts0, H, md⟩ := s
  simp only [Bool.and_eq_true] at hb
  obtain ⟨⟨⟨⟨hb1, hb2⟩, hb3⟩, hb4⟩, hb5⟩ := hb
  have hback : ∀ i o, ops.toList[i]? = some o → ∀ e ∈ o.after.toList, bindsA e = true → e.on < i := fun i o ho e he hbe => by
    have := backN_iff hb1 i o ho e he hbe
    omega
  have hlen : ts0.length = n := hlen
  have hfit : ∀ (i : Nat) (o : Oper), ops.toList[i]? = some o → (∀ d, o.dst = some d → d < ts0.length) ∧ ∀ (j : Nat) (w : Bool), o.guard = some (j, w) → ((ops[j]?).bind (fun x : Oper => x.dst)).isSome = true := fun i o ho => by
    have := List.all_eq_true.1 hb3 o (List.mem_of_getElem? ho)
    simp only [Bool.and_eq_true] at this
    refine ⟨fun d hd => ?_, fun j w hg => ?_⟩
    · have h1 := this.1
      rw [hd] at h1
      rw [hlen]
      exact Nat.le_of_ble_eq_true h1
    · have h1 := this.2
      rw [hg] at h1
      exact h1
  have hta := tail_anc hb4
  have hmle : m ≤ ops.size := by
    have := hb4
    simp only [tailB, Bool.or_eq_true, Bool.and_eq_true] at this
    rcases this with this | this
    · have := Nat.eq_of_beq_eq_true this
      simp at this
      omega
    · have := Nat.le_of_ble_eq_true this.1.1.1
      simpa using this
  have hnog : ∀ i o, m ≤ i → ops.toList[i]? = some o → o.guard = none := fun i o hi ho => by
    have := hb4
    simp only [tailB, Bool.or_eq_true, Bool.and_eq_true] at this
    rcases this with this | this
    · have h1 := Nat.eq_of_beq_eq_true this
      have h2 := (List.getElem?_eq_some_iff.1 ho).1
      omega
    have h1 := List.all_eq_true.1 this.1.2 o (List.mem_of_getElem? (i := i - m) (by rw [List.getElem?_drop, show m + (i - m) = i by omega]; exact ho))
    simpa using h1
  have h : forceNL (ancIn ops.toList m [m]) (fun an => wdrawC P ops ts0 al m an va H H1 (fun V H' => tAllE ops.toList V ts0 fun ts => Q .normal ⟨ts, H', md⟩) 0 ops.toList []) := h
  rw [forceNL_eq] at h
  obtain ⟨V, G, _, hl, hG, hk, hq⟩ := wdrawC_sound P ops ts0 al m (ancIn ops.toList m [m]) va H H1 _ hback (nodup_of hb2) (fun i o ho => (hfit i o ho).1) (fun i o j w ho => (hfit i o ho).2 j w) hmle ops.toList 0 [] rfl rfl (Nat.zero_le _) h
  rw [tAllE_eq] at hk
  have hblt : Nat.blt al m = decide (al < m) := by
    by_cases h : al < m
    · rw [decide_eq_true h]; exact blt_iff.2 h
    · rw [decide_eq_false h]
      cases hb : Nat.blt al m
      · rfl
      · exact absurd (blt_iff.1 hb) h
  have halw : al < m ∨ (ops.size ≤ al ∧ H1 = H) := .inl (blt_iff.1 hb5)
  have halo : al < m → ∃ o, ops.toList[al]? = some o ∧ o.guard = none ∧ VOne P o (tFor al o ops.toList 0 V ts0) H (fun x K' => x = va ∧ K' = H1) ∧ V[al]? = some va := fun hlt => by
    have ho : ops.toList[al]? = some (ops.toList[al]'(by simp; omega)) := List.getElem?_eq_getElem _
    obtain ⟨v, h1, h2⟩ := hq al _ (Nat.zero_le _) ho
    rw [decide_eq_false (by omega)] at h2
    rcases h2 with ⟨_, rfl, g2, g3⟩ | ⟨ne, _⟩
    · exact ⟨_, ho, g2, g3, h1⟩
    · exact absurd rfl ne
  -- the heap behind so many events
  have hcnt := fun i hi => cnt_ev al m i hi ops.size
  have hcntA : cnt (fun j => (Nat.beq j al && Nat.blt al m) || Nat.ble m j) ops.size = (if al < m then 1 else 0) + (ops.size - m) := by
    have h1 := hcnt ops.size hmle
    have h2 : cnt (fun j => ((Nat.beq j al && Nat.blt al m) || Nat.ble m j) && Nat.blt j ops.size) ops.size = cnt (fun j => (Nat.beq j al && Nat.blt al m) || Nat.ble m j) ops.size := cnt_congr fun j hj => by
      have : Nat.blt j ops.size = true := blt_iff.2 hj
      rw [this, Bool.and_true]
    rw [← h2, h1]
    by_cases c : al < m
    · rw [if_pos ⟨c, by omega⟩, if_pos c]; omega
    · rw [if_neg (by omega), if_neg c]; omega
  refine VWP.draw (vals := V) (G := fun c => if al < m then (if c = 0 then H else G (m + (c - 1))) else G (m + c)) (ev := fun j => (Nat.beq j al && Nat.blt al m) || Nat.ble m j) hm
    ⟨by simpa using hl.symm, nodup_of hb2, hback, fun i j hi h1 h2 hji => ?_, fun i o ho hw => ?_, fun i o ho => ?_, fun i o v ho hw hev hv => ?_, fun i o v p ho hw hev hv hA hD => ?_⟩ ?_ ?_
  · -- order
    have him : m ≤ i := by
      rcases Bool.or_eq_true_iff.1 h1 with q | q
      · rcases Bool.or_eq_true_iff.1 h2 with q2 | q2
        · simp only [Bool.and_eq_true] at q q2
          have := Nat.eq_of_beq_eq_true q.1
          have := Nat.eq_of_beq_eq_true q2.1
          omega
        · simp only [Bool.and_eq_true] at q
          have := Nat.eq_of_beq_eq_true q.1
          have := Nat.le_of_ble_eq_true q2
          have := blt_iff.1 q.2
          omega
      · exact Nat.le_of_ble_eq_true q
    have := hta (i - m) j (by simp; omega) (by omega) fun hjm => by
      rcases Bool.or_eq_true_iff.1 h2 with q2 | q2
      · simp only [Bool.and_eq_true] at q2
        have e := Nat.eq_of_beq_eq_true q2.1
        have h5 := hb4
        simp only [tailB, Bool.or_eq_true, Bool.and_eq_true] at h5
        rcases h5 with h5 | h5
        · have := Nat.eq_of_beq_eq_true h5; simp at this; omega
        · rcases h5.2 with h6 | h6
          · rw [e]; exact memN_iff.1 h6
          · have := Nat.eq_of_beq_eq_true h6; simp at this; omega
      · have := Nat.le_of_ble_eq_true q2; omega
    rwa [show m + (i - m) = i by omega] at this
  · -- skip
    obtain ⟨v, h1, h2⟩ := hq i o (Nat.zero_le _) ho
    have hil : i < ops.size := by have := (List.getElem?_eq_some_iff.1 ho).1; simpa using this
    by_cases hmi : m ≤ i
    · have := hnog i o hmi ho
      simp [vwanted, this] at hw
    · rw [decide_eq_false hmi] at h2
      rcases h2 with ⟨e, _⟩ | ⟨ne, ⟨_, rfl⟩ | ⟨h2, _⟩⟩
      · subst e
        obtain ⟨o2, g1, g2, _⟩ := halo (by omega)
        rw [ho] at g1; injection g1 with g1; subst g1
        simp [vwanted, g2] at hw
      · refine ⟨h1, ?_⟩
        rw [Bool.or_eq_false_iff]
        constructor
        · rw [Bool.and_eq_false_iff]
          by_cases e : i = al
          · subst e
            right
            cases hbb : Nat.blt i m
            · rfl
            · obtain ⟨o2, g1, g2, _⟩ := halo (blt_iff.1 hbb)
              rw [ho] at g1; injection g1 with g1; subst g1
              simp [vwanted, g2] at hw
          · left
            rcases beq_cases i al with ⟨_, e2⟩ | ⟨h3, _⟩
            · exact absurd e2 e
            · exact h3
        · cases hbb : Nat.ble m i
          · rfl
          · exact absurd (Nat.le_of_ble_eq_true hbb) hmi
      · rw [hw] at h2; simp at h2
  · -- wanted is known
    obtain ⟨v, h1, h2⟩ := hq i o (Nat.zero_le _) ho
    by_cases hmi : m ≤ i
    · simp [vwanted, hnog i o hmi ho]
    · rw [decide_eq_false hmi] at h2
      rcases h2 with ⟨e, _⟩ | ⟨ne, ⟨h2, _⟩ | ⟨h2, _⟩⟩
      · subst e
        obtain ⟨o2, g1, g2, _⟩ := halo (by omega)
        rw [ho] at g1; injection g1 with g1; subst g1
        simp [vwanted, g2]
      · rw [h2]; simp
      · rw [h2]; simp
  · -- events
    obtain ⟨u, h1, h2⟩ := hq i o (Nat.zero_le _) ho
    rw [hv] at h1; injection h1 with h1; subst h1
    have hil : i < ops.size := by have := (List.getElem?_eq_some_iff.1 ho).1; simpa using this
    by_cases hmi : m ≤ i
    · rw [decide_eq_true hmi] at h2
      simp only at h2
      have hc := hcnt i hmi
      have hmin : min ops.size i = i := by omega
      rw [hmin] at hc
      rw [hc]
      by_cases c : al < m
      · simp only [if_pos c, if_pos (And.intro c (show al < ops.size by omega))]
        rw [if_neg (by omega), if_neg (by omega), show m + (1 + (i - m) - 1) = i by omega, show m + (1 + (i - m) + 1 - 1) = i + 1 by omega]
        exact h2
      · simp only [if_neg c, if_neg (show ¬ (al < m ∧ al < ops.size) by omega)]
        rw [show m + (0 + (i - m)) = i by omega, show m + (0 + (i - m) + 1) = i + 1 by omega]
        exact h2
    · have hia : i = al ∧ al < m := by
        rcases Bool.or_eq_true_iff.1 hev with q | q
        · simp only [Bool.and_eq_true] at q
          exact ⟨Nat.eq_of_beq_eq_true q.1, blt_iff.1 q.2⟩
        · exact absurd (Nat.le_of_ble_eq_true q) hmi
      obtain ⟨rfl, hlt⟩ := hia
      obtain ⟨o2, g1, g2, g3⟩ := halo hlt
      rw [ho] at g1; injection g1 with g1; subst g1
      rw [decide_eq_false hmi] at h2
      have hc0 : cnt (fun j => ((Nat.beq j i && Nat.blt i m) || Nat.ble m j) && Nat.blt j i) ops.size = 0 := by
        rw [cnt_congr (g := fun _ => false) fun j hj => ?_]
        · exact cnt_false _
        · cases hbb : Nat.blt j i
          · simp
          · have hji := blt_iff.1 hbb
            have e1 : Nat.beq j i = false := by
              rcases beq_cases j i with ⟨_, e⟩ | ⟨h3, _⟩
              · omega
              · exact h3
            have e2 : Nat.ble m j = false := by
              cases hq2 : Nat.ble m j
              · rfl
              · have := Nat.le_of_ble_eq_true hq2; omega
            simp [e1, e2]
      rw [hc0]
      simp only [if_pos hlt, if_true]
      rw [if_neg (by omega), show m + (0 + 1 - 1) = m by omega, hG]
      have hvv : v = va := by
        rcases h2 with ⟨_, e, _⟩ | ⟨ne, _⟩
        · exact e
        · exact absurd rfl ne
      subst hvv
      exact g3.1
  · -- the others
    obtain ⟨u, h1, h2⟩ := hq i o (Nat.zero_le _) ho
    rw [hv] at h1; injection h1 with h1; subst h1
    rcases Bool.or_eq_false_iff.1 hev with ⟨k1, k2⟩
    have hmi : ¬ m ≤ i := fun hh => by rw [Nat.ble_eq_true_of_le hh] at k2; cases k2
    rw [decide_eq_false hmi] at h2
    rcases h2 with ⟨e, _⟩ | ⟨ne, ⟨h2, _⟩ | ⟨_, q⟩⟩
    · subst e
      have hlt : i < m := by omega
      rw [hblt, decide_eq_true hlt, Bool.and_true] at k1
      simp [Nat.beq_refl] at k1
    · rw [hw] at h2; simp at h2
    · unfold PureF at q
      cases hfl : flagB ops.size m (ancIn ops.toList m [m]) i with
      | false => rw [hfl] at q; exact q _
      | true =>
        rw [hfl] at q
        obtain ⟨q1, q2⟩ := q
        have hd := hD (fun j => Nat.ble m j && Nat.blt j ops.size) fun j hj => by
          simp only [Bool.and_eq_true] at hj
          have hmj := Nat.le_of_ble_eq_true hj.1
          have hjs := blt_iff.1 hj.2
          refine ⟨by simp [hj.1], ?_⟩
          have := hta (j - m) i (by simp; omega) (by omega) fun _ => by
            unfold flagB at hfl
            split at hfl
            · rename_i hbq
              have := Nat.eq_of_beq_eq_true hbq
              omega
            · exact memN_iff.1 hfl
          rwa [show m + (j - m) = j by omega] at this
        have hcd : cnt (fun j => Nat.ble m j && Nat.blt j ops.size) ops.size = ops.size - m := by
          have h3 := cnt_ev ops.size m ops.size hmle ops.size
          rw [if_neg (by omega)] at h3
          rw [show ops.size - m = 0 + (min ops.size ops.size - m) by omega, ← h3]
          refine cnt_congr fun j hj => ?_
          have : Nat.blt ops.size m = false := by
            cases hbb : Nat.blt ops.size m
            · rfl
            · have := blt_iff.1 hbb; omega
          simp [this]
        rw [hcd, hcntA] at hd
        by_cases c : al < m
        · simp only [if_pos c] at hd ⊢
          by_cases hp : p = 0
          · simp only [if_pos hp]; exact q1
          · have : p = 1 := by omega
            subst this
            simp only [if_neg (show ¬ (1 : Nat) = 0 by omega), Nat.sub_self, Nat.add_zero, hG]
            exact q2 c
        · simp only [if_neg c] at hd ⊢
          have : p = 0 := by omega
          subst this
          rcases halw with q | ⟨_, e⟩
          · exact absurd q c
          · rw [Nat.add_zero, hG, e]; exact q1
  · -- the first heap
    by_cases c : al < m
    · simp only [if_pos c, if_true]
    · simp only [if_neg c, Nat.add_zero, hG]
      rcases halw with q | ⟨_, e⟩
      · exact absurd q c
      · exact e
  · -- the last
    rw [hcntA]
    by_cases c : al < m
    · simp only [if_pos c]
      by_cases hz : 1 + (ops.size - m) = 0
      · omega
      · rw [if_neg hz, show m + (1 + (ops.size - m) - 1) = ops.size by omega]; exact hk
    · simp only [if_neg c]
      rw [show m + (0 + (ops.size - m)) = ops.size by omega]; exact hk⟩
end Go.Proofs.Ytbnemkdkeaiaoaa
