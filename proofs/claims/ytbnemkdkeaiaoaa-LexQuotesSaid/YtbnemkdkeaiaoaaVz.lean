/- The reckoner: regions that draw their order. Over any program. -/
import Derived.Test.YtbnemkdkeaiaoaaVy
namespace Go.Proofs.Ytbnemkdkeaiaoaa
open Go Go.RowKit
set_option linter.unusedSimpArgs false
set_option linter.unusedVariables false

theorem tFor_vals {i : Nat} {o : Oper} : ∀ (l : List Oper) (k : Nat) (vs vs' ts : List VV), (∀ m, waitsFor o.after.toList (k + m) = true → vs[m]? = vs'[m]?) → tFor i o l k vs ts = tFor i o l k vs' ts
  | [], _, _, _, _, _ => rfl
  | x :: r, k, vs, vs', ts, h => by
    have h0 : waitsFor o.after.toList k = true → vs.headD .junk = vs'.headD .junk := fun hw => by
      have := h 0 (by simpa using hw)
      simp only [List.headD_eq_head?_getD, List.head?_eq_getElem?]
      rw [this]
    have ht : ∀ ts', tFor i o r (k + 1) vs.tail ts' = tFor i o r (k + 1) vs'.tail ts' := fun ts' => tFor_vals r (k + 1) _ _ ts' fun m hm => by
      have := h (m + 1) (by rw [← hm]; congr 1; omega)
      simpa using this
    simp only [tFor]
    cases x.dst with
    | none => exact ht _
    | some d =>
      simp only
      cases hw : waitsFor o.after.toList k with
      | true => simp only; rw [h0 hw]; exact ht _
      | false => simp only; split <;> exact ht _

def count2 : List Nat → Nat
  | [] => 0
  | k :: r => count2 r + (match Nat.beq k 2 with | true => 1 | false => 0)
def isEv (K : List Nat) (j : Nat) : Bool := Nat.beq (K.getD j 0) 2
theorem count2_append (a b : List Nat) : count2 (a ++ b) = count2 b + count2 a := by
  induction a with
  | nil => rfl
  | cons k r ih => simp only [List.cons_append, count2, ih]; omega
theorem cnt_take {K : List Nat} : ∀ (i : Nat), i ≤ K.length → cnt (isEv K) i = count2 (K.take i)
  | 0, _ => by simp [cnt, count2]
  | i + 1, h => by
    rw [cnt, cnt_take i (by omega), List.take_succ_eq_append_getElem (by omega), count2_append]
    simp only [isEv, List.getD_eq_getElem?_getD, List.getElem?_eq_getElem (show i < K.length by omega), Option.getD_some, count2]
    cases hbb : Nat.beq (K[i]'(by omega)) 2 <;> simp <;> omega
theorem cnt_cut {f : Nat → Bool} {i : Nat} : ∀ {n : Nat}, i ≤ n → (∀ j, i ≤ j → f j = false) → cnt f n = cnt f i
  | 0, h, _ => by have : i = 0 := by omega
                  subst this; rfl
  | n + 1, h, hf => by
    by_cases e : i = n + 1
    · subst e; rfl
    · rw [cnt, cnt_cut (n := n) (by omega) hf, hf n (by omega)]; rfl
theorem cnt_before {K : List Nat} {i n : Nat} (hn : n = K.length) (hi : i ≤ n) : cnt (fun j => isEv K j && Nat.blt j i) n = count2 (K.take i) := by
  rw [cnt_cut (i := i) hi (fun j hj => by
    have : Nat.blt j i = false := by
      cases hb : Nat.blt j i with
      | false => rfl
      | true => have := Nat.le_of_ble_eq_true hb; omega
    rw [this, Bool.and_false]), ← cnt_take i (by omega)]
  exact cnt_congr fun j hj => by
    have : Nat.blt j i = true := Nat.ble_eq_true_of_le hj
    rw [this, Bool.and_true]

section
variable (P : Program) (call round : CallF) (ops : Array Oper) (ts0 : List VV)
/-- The operations one by one: what each hands back; the heaps; of which kind each is (0: looks at no memory; 1: looks; 2: turns it). -/
def vdrawGo (all : List Oper) : Nat → List Oper → List VV → List Heap → List Nat → Option (List VV × List Heap × List Nat)
  | _, [], vs, Gs, K => some (vs, Gs, K)
  | i, o :: r, vs, Gs, K => match vwanted ops o (tFor i o all 0 vs ts0) with
    | none => none
    | some false => vdrawGo all (i + 1) r (vs ++ [.tp []]) Gs (K ++ [0])
    | some true => match vpure P o (tFor i o all 0 vs ts0) with
      | some v => vdrawGo all (i + 1) r (vs ++ [v]) Gs (K ++ [0])
      | none => match Gs.getLast? with
        | none => none
        | some H => match vread P o (tFor i o all 0 vs ts0) H with
          | some v => vdrawGo all (i + 1) r (vs ++ [v]) Gs (K ++ [1])
          | none => match vevent P call round o (tFor i o all 0 vs ts0) H with
            | some (v, H') => vdrawGo all (i + 1) r (vs ++ [v]) (Gs ++ [H']) (K ++ [2])
            | none => none
/-- What is known of operation j. -/
def DFact (V : List VV) (GG : List Heap) (K : List Nat) (j : Nat) (o : Oper) : Prop := ∃ v, V[j]? = some v ∧
  ((vwanted ops o (tFor j o ops.toList 0 V ts0) = some false ∧ v = .tp [] ∧ K[j]? = some 0) ∨
   (vwanted ops o (tFor j o ops.toList 0 V ts0) = some true ∧
     ((vpure P o (tFor j o ops.toList 0 V ts0) = some v ∧ K[j]? = some 0) ∨ K[j]? = some 1 ∨
      (K[j]? = some 2 ∧ ∃ H H', GG[count2 (K.take j)]? = some H ∧ GG[count2 (K.take j) + 1]? = some H' ∧ vevent P call round o (tFor j o ops.toList 0 V ts0) H = some (v, H')))))
theorem vdrawGo_sound (hback : ∀ i o, ops.toList[i]? = some o → ∀ e ∈ o.after.toList, bindsA e = true → e.on < i) : ∀ (r : List Oper) (i : Nat) (vs : List VV) (Gs : List Heap) (K : List Nat) {V : List VV} {GG : List Heap} {KK : List Nat}, ops.toList.drop i = r → vs.length = i → K.length = i →
    Gs.length = count2 K + 1 → vdrawGo P call round ops ts0 ops.toList i r vs Gs K = some (V, GG, KK) →
    (∃ a, V = vs ++ a) ∧ (∃ b, GG = Gs ++ b) ∧ (∃ c, KK = K ++ c) ∧ (i ≤ ops.size → V.length = ops.size ∧ KK.length = ops.size) ∧ GG.length = count2 KK + 1 ∧ ∀ j o, i ≤ j → ops.toList[j]? = some o → DFact P call round ops ts0 V GG KK j o
  | [], i, vs, Gs, K, V, GG, KK, hd, hv, hK, hG, h => by
    simp [vdrawGo] at h
    obtain ⟨rfl, rfl, rfl⟩ := h
    have hle : ops.size ≤ i := by have := congrArg List.length hd; simp at this; omega
    refine ⟨⟨[], by simp⟩, ⟨[], by simp⟩, ⟨[], by simp⟩, fun h => ⟨by omega, by omega⟩, hG, fun j o hj ho => ?_⟩
    have := (List.getElem?_eq_some_iff.1 ho).1
    simp at this
    omega
  | o :: r, i, vs, Gs, K, V, GG, KK, hd, hv, hK, hG, h => by
    have ho : ops.toList[i]? = some o := by
      have := congrArg (fun l => l[0]?) hd
      simpa using this
    have hd' : ops.toList.drop (i + 1) = r := by rw [← List.drop_drop, hd]; rfl
    have hilt : i < ops.size := by have := (List.getElem?_eq_some_iff.1 ho).1; simpa using this
    have hT : ∀ {V : List VV} {a : List VV}, V = vs ++ a → tFor i o ops.toList 0 vs ts0 = tFor i o ops.toList 0 V ts0 := fun {V a} e => tFor_vals _ _ _ _ _ fun m hm => by
      obtain ⟨ed, he, hon, hb⟩ := waitsFor_iff hm
      have := hback i o ho ed he hb
      rw [e, List.getElem?_append_left (by omega)]
    -- what a step gives
    have step : ∀ (v : VV) (Gs' : List Heap) (k : Nat), Gs'.length = count2 (K ++ [k]) + 1 → (∃ b, Gs' = Gs ++ b) → vdrawGo P call round ops ts0 ops.toList (i + 1) r (vs ++ [v]) Gs' (K ++ [k]) = some (V, GG, KK) →
        (∀ (VV' : V[i]? = some v) (KK' : KK[i]? = some k) (KT : KK.take i = K) (GT : ∃ b, GG = Gs' ++ b) (T' : tFor i o ops.toList 0 vs ts0 = tFor i o ops.toList 0 V ts0), DFact P call round ops ts0 V GG KK i o) →
        (∃ a, V = vs ++ a) ∧ (∃ b, GG = Gs ++ b) ∧ (∃ c, KK = K ++ c) ∧ (i ≤ ops.size → V.length = ops.size ∧ KK.length = ops.size) ∧ GG.length = count2 KK + 1 ∧ ∀ j o, i ≤ j → ops.toList[j]? = some o → DFact P call round ops ts0 V GG KK j o := by
      intro v Gs' k hG' hGs h hf
      obtain ⟨⟨a, ha⟩, ⟨b, hb⟩, ⟨c, hc⟩, hlen, hgl, hfacts⟩ := vdrawGo_sound hback r (i + 1) _ _ _ hd' (by simp [hv]) (by simp [hK]) hG' h
      obtain ⟨b0, hb0⟩ := hGs
      refine ⟨⟨v :: a, by rw [ha]; simp⟩, ⟨b0 ++ b, by rw [hb, hb0]; simp⟩, ⟨k :: c, by rw [hc]; simp⟩, fun _ => hlen hilt, hgl, fun j x hj hx => ?_⟩
      by_cases e : j = i
      · subst e
        rw [ho] at hx; injection hx with hx; subst hx
        refine hf ?_ ?_ ?_ ⟨b, hb⟩ (hT (a := v :: a) (by rw [ha]; simp))
        · rw [ha, List.append_assoc, List.getElem?_append_right (by omega)]; simp [hv]
        · rw [hc, List.append_assoc, List.getElem?_append_right (by omega)]; simp [hK]
        · rw [hc, List.append_assoc, List.take_append_of_le_length (by omega), List.take_of_length_le (by omega)]
      · exact hfacts j x (by omega) hx
    simp only [vdrawGo] at h
    split at h
    · simp at h
    · rename_i hw
      refine step _ Gs 0 (by rw [count2_append, hG]; simp [count2]) ⟨[], by simp⟩ h fun h1 h2 h3 h4 h5 => ?_
      exact ⟨_, h1, .inl ⟨h5 ▸ hw, rfl, h2⟩⟩
    · rename_i hw
      split at h
      · rename_i v hp
        refine step _ Gs 0 (by rw [count2_append, hG]; simp [count2]) ⟨[], by simp⟩ h fun h1 h2 h3 h4 h5 => ?_
        exact ⟨_, h1, .inr ⟨h5 ▸ hw, .inl ⟨h5 ▸ hp, h2⟩⟩⟩
      · split at h
        · simp at h
        · rename_i H hH
          split at h
          · rename_i v hrd
            refine step _ Gs 1 (by rw [count2_append, hG]; simp [count2]) ⟨[], by simp⟩ h fun h1 h2 h3 h4 h5 => ?_
            exact ⟨_, h1, .inr ⟨h5 ▸ hw, .inr (.inl h2)⟩⟩
          · split at h
            · rename_i v H' hev
              refine step _ (Gs ++ [H']) 2 (by rw [count2_append, List.length_append, hG]; simp [count2]; omega) ⟨[H'], rfl⟩ h fun h1 h2 h3 h4 h5 => ?_
              obtain ⟨b, hb⟩ := h4
              refine ⟨_, h1, .inr ⟨h5 ▸ hw, .inr (.inr ⟨h2, H, H', ?_, ?_, h5 ▸ hev⟩)⟩⟩
              · rw [h3, hb, List.append_assoc, List.getElem?_append_left (by omega)]
                rw [List.getLast?_eq_getElem?, hG] at hH
                simpa using hH
              · rw [h3, hb, List.append_assoc, List.getElem?_append_right (by omega), hG]
                simp
            · simp at h

/-- The turns of memory come one behind the other; what looks at memory sees the same whenever it may come. -/
def vdrawChk (ms : List Nat) (V : List VV) (GG : List Heap) (K : List Nat) : Bool :=
  ((List.range ops.size).all fun i => !isEv K i || (List.range i).all fun j => !isEv K j || (ms.getD i 0).testBit j) &&
  ((List.range ops.size).all fun i => !(Nat.beq (K.getD i 0) 1) || match ops[i]?, V[i]? with
    | some o, some v =>
      (List.range (cnt (isEv K) ops.size + 1)).all fun p => !(Nat.ble (cnt (fun j => isEv K j && (ms.getD i 0).testBit j) ops.size) p && Nat.ble (p + cnt (fun j => isEv K j && (ms.getD j 0).testBit i) ops.size) (cnt (isEv K) ops.size)) ||
        (match GG[p]? with
          | some H => match vread P o (tFor i o ops.toList 0 V ts0) H with
            | some v' => veq v' v
            | none => false
          | none => false)
    | _, _ => false)
def vdraw (s : VSt) : Option VSt := match backN 0 ops.toList && nodupN (dstsOf ops.toList) with
  | true => match vdrawGo P call round ops s.tmps ops.toList 0 ops.toList [] [s.heap] [] with
    | some (V, GG, K) => match vdrawChk P ops s.tmps (masks ops.toList []) V GG K with
      | true => match GG.getLast? with
        | some H => some ⟨tAll ops.toList V s.tmps, H, s.marks⟩
        | none => none
      | false => none
    | none => none
  | false => none
end
theorem backN_iff : ∀ {l : List Oper} {k : Nat}, backN k l = true → ∀ i o, l[i]? = some o → ∀ e ∈ o.after.toList, bindsA e = true → e.on < k + i
  | x :: r, k, h, i, o, ho, e, he, hb => by
    simp only [backN] at h
    split at h
    · rename_i hall
      cases i with
      | zero =>
        simp at ho
        subst ho
        have := List.all_eq_true.1 hall e he
        rw [hb] at this
        simp only [Bool.not_true, Bool.false_or] at this
        have := Nat.le_of_ble_eq_true this
        omega
      | succ i =>
        have := backN_iff h i o (by simpa using ho) e he hb
        omega
    · simp at h
  | [], _, _, i, o, ho, _, _, _ => by simp at ho
theorem vdraw_sound {P : Program} {call round : CallF} (hm : P.follows .mixedOrders = true) (hc : CallOK P call) (hr : RoundOK P round) {ops : Array Oper} {s s' : VSt} (h : vdraw P call round ops s = some s') {r : Option Nat} {id : Nat} : VWP P r (.region id ops true) (fun e t => e = .normal ∧ t = s') s := by
  unfold vdraw at h
  split at h
  · rename_i hb
    simp only [Bool.and_eq_true] at hb
    split at h
    · rename_i V GG K hgo
      split at h
      · rename_i hchk
        split at h
        · rename_i H hH
          simp at h
          subst h
          have hback : ∀ i o, ops.toList[i]? = some o → ∀ e ∈ o.after.toList, bindsA e = true → e.on < i := fun i o ho e he hbe => by
            have := backN_iff hb.1 i o ho e he hbe
            omega
          obtain ⟨_, ⟨b, hbG⟩, _, hlen, hgl, hfacts⟩ := vdrawGo_sound P call round ops s.tmps hback ops.toList 0 [] [s.heap] [] rfl rfl rfl rfl hgo
          obtain ⟨hV, hK⟩ := hlen (Nat.zero_le _)
          simp only [vdrawChk, Bool.and_eq_true, List.all_eq_true, List.mem_range] at hchk
          obtain ⟨hord, hrd⟩ := hchk
          have hanc := masks_anc (ops := ops.toList) ops.toList [] rfl (fun k m j h => by simp at h)
          have hanc' : ∀ i j, ((masks ops.toList []).getD i 0).testBit j = true → Anc ops.toList i j := fun i j h => by
            rw [List.getD_eq_getElem?_getD] at h
            cases hmi : (masks ops.toList [])[i]? with
            | none => rw [hmi] at h; simp at h
            | some m => rw [hmi] at h; exact hanc i m j hmi (by simpa using h)
          have hevK : ∀ {j k : Nat}, K[j]? = some k → isEv K j = Nat.beq k 2 := fun h => by
            unfold isEv; rw [List.getD_eq_getElem?_getD, h]; rfl
          have hG0 : (GG[0]?).getD s.heap = s.heap := by rw [hbG]; rfl
          have htot : cnt (isEv K) ops.size = count2 K := by rw [cnt_take _ (by omega), List.take_of_length_le (by omega)]
          refine VWP.draw (ev := isEv K) (vals := V) (G := fun k => (GG[k]?).getD s.heap) hm ?_ hG0 ⟨rfl, ?_⟩
          · refine ⟨by simpa using hV.symm, nodup_of hb.2, hback, ?_, ?_, ?_, ?_, ?_⟩
            · intro i j hi hei hej hji
              have h1 := hord i hi
              rw [hei] at h1
              simp only [Bool.not_true, Bool.false_or, List.all_eq_true, List.mem_range] at h1
              have h2 := h1 j hji
              rw [hej] at h2
              exact hanc' i j (by simpa using h2)
            · intro i o ho hw
              obtain ⟨v, hv, hf⟩ := hfacts i o (Nat.zero_le _) ho
              rcases hf with ⟨_, rfl, hk⟩ | ⟨hw', _⟩
              · exact ⟨hv, by rw [hevK hk]; rfl⟩
              · rw [hw] at hw'; cases hw'
            · intro i o ho
              obtain ⟨v, hv, hf⟩ := hfacts i o (Nat.zero_le _) ho
              rcases hf with ⟨hw', _⟩ | ⟨hw', _⟩ <;> rw [hw'] <;> simp
            · intro i o v ho hw hei hv
              obtain ⟨v', hv', hf⟩ := hfacts i o (Nat.zero_le _) ho
              rw [hv] at hv'; injection hv' with hv'; subst hv'
              have hi : i < ops.size := by have := (List.getElem?_eq_some_iff.1 ho).1; simpa using this
              rcases hf with ⟨hw', _⟩ | ⟨_, ⟨_, hk⟩ | hk | ⟨hk, H1, H2, g1, g2, g3⟩⟩
              · rw [hw] at hw'; cases hw'
              · rw [hevK hk] at hei; cases hei
              · rw [hevK hk] at hei; cases hei
              · simp only [cnt_before hK.symm (Nat.le_of_lt hi), g1, g2, Option.getD_some]
                exact vevent_sound hc hr g3
            · intro i o v p ho hw hei hv hA hD
              obtain ⟨v', hv', hf⟩ := hfacts i o (Nat.zero_le _) ho
              rw [hv] at hv'; injection hv' with hv'; subst hv'
              have hi : i < ops.size := by have := (List.getElem?_eq_some_iff.1 ho).1; simpa using this
              rcases hf with ⟨hw', _⟩ | ⟨_, ⟨hp, hk⟩ | hk | ⟨hk, _⟩⟩
              · rw [hw] at hw'; cases hw'
              · exact VOne.plain (vpure_vop hp _)
              · have h1 := hrd i hi
                have h2 : K.getD i 0 = 1 := by rw [List.getD_eq_getElem?_getD, hk]; rfl
                have ho2 : ops[i]? = some o := by simpa using ho
                rw [h2, ho2, hv] at h1
                have h1 : ((List.range (cnt (isEv K) ops.size + 1)).all fun p => !(Nat.ble (cnt (fun j => isEv K j && ((masks ops.toList []).getD i 0).testBit j) ops.size) p && Nat.ble (p + cnt (fun j => isEv K j && ((masks ops.toList []).getD j 0).testBit i) ops.size) (cnt (isEv K) ops.size)) ||
        (match GG[p]? with
          | some H => match vread P o (tFor i o ops.toList 0 V s.tmps) H with
            | some v' => veq v' v
            | none => false
          | none => false)) = true := by simpa using h1
                rw [List.all_eq_true] at h1
                have l1 := hA (fun j => isEv K j && ((masks ops.toList []).getD i 0).testBit j) (fun j hj => by
                  simp only [Bool.and_eq_true] at hj
                  exact ⟨hj.1, hanc' i j hj.2⟩)
                have l2 := hD (fun j => isEv K j && ((masks ops.toList []).getD j 0).testBit i) (fun j hj => by
                  simp only [Bool.and_eq_true] at hj
                  exact ⟨hj.1, hanc' j i hj.2⟩)
                have h3 := h1 p (by rw [List.mem_range]; omega)
                rw [Nat.ble_eq_true_of_le l1, Nat.ble_eq_true_of_le l2] at h3
                simp only [Bool.and_true, Bool.not_true, Bool.false_or] at h3
                split at h3
                · rename_i H1 hH1
                  split at h3
                  · rename_i v' hv'
                    have := veq_eq h3
                    subst this
                    simp only [hH1, Option.getD_some]
                    exact VOne.plain (vread_vop hv')
                  · simp at h3
                · simp at h3
              · rw [hevK hk] at hei; cases hei
          · rw [htot]
            rw [List.getLast?_eq_getElem?, hgl] at hH
            have : GG[count2 K]? = some H := by simpa using hH
            rw [this]
            rfl
        · simp at h
      · simp at h
    · simp at h
  · simp at h
end Go.Proofs.Ytbnemkdkeaiaoaa
