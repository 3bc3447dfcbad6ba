/- Regions that draw their order, of the walk's operations; calls by a contract. Over any program. -/
import Derived.Test.YtbnemkdkeaiaoaaVu
namespace Go.Proofs.Ytbnemkdkeaiaoaa
open Go Go.RowKit
set_option linter.unusedSimpArgs false
set_option linter.unusedVariables false

def bindsA (e : Edge) : Bool := Region.binds .any e
/-- Is j one of those that the operation waits for? -/
def waitsFor (after : List Edge) (j : Nat) : Bool := match after with
  | [] => false
  | e :: r => match Nat.beq e.on j && bindsA e with
    | true => true
    | false => waitsFor r j
theorem waitsFor_iff {after : List Edge} {j : Nat} (h : waitsFor after j = true) : ∃ e ∈ after, e.on = j ∧ bindsA e = true := by
  induction after with
  | nil => simp [waitsFor] at h
  | cons e r ih =>
    simp only [waitsFor] at h
    split at h
    · rename_i hb
      simp only [Bool.and_eq_true] at hb
      exact ⟨e, by simp, Nat.eq_of_beq_eq_true hb.1, hb.2⟩
    · obtain ⟨x, hx, hh⟩ := ih h
      exact ⟨x, by simp [hx], hh⟩
/-- The temporaries that operation i may look at: what those ahead of it have left, what those behind it will overwrite, and nothing of the others. -/
def tFor (i : Nat) (o : Oper) : List Oper → Nat → List VV → List VV → List VV
  | [], _, _, ts => ts
  | x :: r, j, vs, ts => tFor i o r (j + 1) vs.tail (match x.dst with
    | none => ts
    | some d => match waitsFor o.after.toList j with
      | true => ts.set d (vs.headD .junk)
      | false => match waitsFor x.after.toList i with
        | true => ts
        | false => ts.set d .junk)
/-- The temporaries behind all operations. -/
def tAll : List Oper → List VV → List VV → List VV
  | x :: r, v :: vs, ts => tAll r vs (match x.dst with
    | none => ts
    | some d => ts.set d v)
  | _, _, ts => ts
def dstsOf : List Oper → List Nat
  | [] => []
  | x :: r => match x.dst with
    | none => dstsOf r
    | some d => d :: dstsOf r
def memN (d : Nat) : List Nat → Bool
  | [] => false
  | x :: r => match Nat.beq x d with
    | true => true
    | false => memN d r
def nodupN : List Nat → Bool
  | [] => true
  | x :: r => match memN x r with
    | true => false
    | false => nodupN r
/-- Binding edges lead back. -/
def backN : Nat → List Oper → Bool
  | _, [] => true
  | i, o :: r => match o.after.toList.all (fun e => !bindsA e || Nat.blt e.on i) with
    | true => backN (i + 1) r
    | false => false
theorem memN_iff {d : Nat} : ∀ {l : List Nat}, memN d l = true ↔ d ∈ l
  | [] => by simp [memN]
  | x :: r => by
    rcases beq_cases x d with ⟨h, e⟩ | ⟨h, e⟩
    · simp [memN, h, e]
    · have := memN_iff (d := d) (l := r)
      simp [memN, h, this]
      exact fun e' => absurd e'.symm e
theorem nodup_of : ∀ {l : List Nat}, nodupN l = true → l.Nodup
  | [], _ => by simp
  | x :: r, h => by
    simp only [nodupN] at h
    cases hm : memN x r with
    | true => simp [hm] at h
    | false =>
      simp [hm] at h
      rw [List.nodup_cons]
      refine ⟨fun hx => ?_, nodup_of h⟩
      rw [memN_iff.2 hx] at hm
      cases hm
theorem mem_dstsOf {l : List Oper} {x : Oper} {d : Nat} (hx : x ∈ l) (hd : x.dst = some d) : d ∈ dstsOf l := by
  induction l with
  | nil => cases hx
  | cons y r ih =>
    unfold dstsOf
    rcases List.mem_cons.1 hx with h | h
    · subst h
      rw [hd]
      exact List.mem_cons_self
    · have := ih h
      split
      · exact this
      · exact List.mem_cons_of_mem _ this
/-- Two operations do not write one temporary. -/
theorem dst_inj : ∀ {l : List Oper} {i j d : Nat} {x y : Oper}, (dstsOf l).Nodup → l[i]? = some x → l[j]? = some y → x.dst = some d → y.dst = some d → i = j
  | z :: r, 0, 0, _, _, _, _, _, _, _, _ => rfl
  | z :: r, 0, j + 1, d, x, y, hn, hx, hy, hdx, hdy => by
    simp at hx hy
    subst hx
    simp only [dstsOf, hdx, List.nodup_cons] at hn
    exact absurd (mem_dstsOf (List.mem_of_getElem? hy) hdy) hn.1
  | z :: r, i + 1, 0, d, x, y, hn, hx, hy, hdx, hdy => by
    simp at hx hy
    subst hy
    simp only [dstsOf, hdy, List.nodup_cons] at hn
    exact absurd (mem_dstsOf (List.mem_of_getElem? hx) hdx) hn.1
  | z :: r, i + 1, j + 1, d, x, y, hn, hx, hy, hdx, hdy => by
    simp at hx hy
    have : (dstsOf r).Nodup := by
      simp only [dstsOf] at hn
      split at hn
      · exact hn
      · exact (List.nodup_cons.1 hn).2
    rw [dst_inj this hx hy hdx hdy]
  | [], _, _, _, _, _, _, hx, _, _, _ => by simp at hx

section
variable {w : World} {Z : Nat → Prop} {ρ : Nat → Option (Nat × Nat)}
/-- What holds of the temporaries when the operations that L lists have been carried out. -/
structure TInv (w : World) (Z : Nat → Prop) (ρ : Nat → Option (Nat × Nat)) (ops : List Oper) (ts0 vals : List VV) (L : Nat → Bool) (cs : List Value) : Prop where
  len : ts0.length = cs.length
  base : ∀ (t : Nat) (u : VV) (c : Value), ts0[t]? = some u → cs[t]? = some c → (∀ j x, ops[j]? = some x → x.dst = some t → L j = false) → VRel w Z ρ u c
  done : ∀ (j t : Nat) (x : Oper) (u : VV) (c : Value), ops[j]? = some x → x.dst = some t → L j = true → vals[j]? = some u → cs[t]? = some c → VRel w Z ρ u c
theorem tFor_rel {ops : List Oper} {vals : List VV} {L : Nat → Bool} {cs : List Value} {i : Nat} {o : Oper} (hn : (dstsOf ops).Nodup) (hi : ops[i]? = some o)
    (h1 : ∀ j, waitsFor o.after.toList j = true → L j = true) (h2 : ∀ j x, ops[j]? = some x → waitsFor x.after.toList i = true → L j = false) {ts0 : List VV} (h : TInv w Z ρ ops ts0 vals L cs) :
    ∀ (l : List Oper) (k : Nat) (ts : List VV), ops.drop k = l → ts.length = cs.length →
      (∀ (t : Nat) (u : VV) (c : Value), ts[t]? = some u → cs[t]? = some c → (∀ j x, k ≤ j → ops[j]? = some x → x.dst ≠ some t) → VRel w Z ρ u c) →
      (∀ (t : Nat) (j : Nat) (x : Oper), k ≤ j → ops[j]? = some x → x.dst = some t → ts[t]? = ts0[t]?) → Pw (VRel w Z ρ) (tFor i o l k (vals.drop k) ts) cs
  | [], k, ts, hk, hlen, ha, hb => by
    refine ⟨hlen, fun t u c hu hc => ha t u c hu hc fun j x hj hx => ?_⟩
    have : ops.length ≤ k := by have := congrArg List.length hk; simp at this; omega
    have := (List.getElem?_eq_some_iff.1 hx).1
    omega
  | x :: r, k, ts, hk, hlen, ha, hb => by
    have hxk : ops[k]? = some x := by
      have := congrArg (fun l => l[0]?) hk
      simpa using this
    have hkr : ops.drop (k + 1) = r := by rw [← List.drop_drop, hk]; rfl
    have hvt : (vals.drop k).tail = vals.drop (k + 1) := by simp
    have hvh : (vals.drop k).headD .junk = (vals[k]?).getD .junk := by
      simp [List.headD_eq_head?_getD, List.head?_drop]
    rw [tFor, hvt]
    -- what stands behind this step
    have step : ∀ (ts' : List VV), ts'.length = cs.length → (∀ d, x.dst = some d → ∀ u c, ts'[d]? = some u → cs[d]? = some c → VRel w Z ρ u c) → (∀ t, x.dst ≠ some t → ts'[t]? = ts[t]?) →
        Pw (VRel w Z ρ) (tFor i o r (k + 1) (vals.drop (k + 1)) ts') cs := by
      intro ts' hl' hd' ho'
      refine tFor_rel hn hi h1 h2 h r (k + 1) ts' hkr hl' ?_ ?_
      · intro t u c hu hc hno
        by_cases ht : x.dst = some t
        · exact hd' t ht u c hu hc
        · rw [ho' t ht] at hu
          refine ha t u c hu hc fun j y hj hy => ?_
          by_cases hjk : j = k
          · subst hjk; rw [hxk] at hy; injection hy with hy; subst hy; exact ht
          · exact hno j y (by omega) hy
      · intro t j y hj hy hyd
        have ht : x.dst ≠ some t := fun e => by
          have := dst_inj hn hxk hy e hyd
          omega
        rw [ho' t ht]
        exact hb t j y (by omega) hy hyd
    have setCase : ∀ (d : Nat) (u : VV), x.dst = some d → (∀ c, cs[d]? = some c → VRel w Z ρ u c) → Pw (VRel w Z ρ) (tFor i o r (k + 1) (vals.drop (k + 1)) (ts.set d u)) cs := by
      intro d u hd hu
      refine step _ (by simpa using hlen) ?_ ?_
      · intro d' hd' u' c hu' hc
        rw [hd] at hd'; injection hd' with hd'; subst hd'
        have hlt : d < ts.length := by have := (List.getElem?_eq_some_iff.1 hc).1; omega
        rw [List.getElem?_set_self hlt] at hu'
        injection hu' with hu'
        subst hu'
        exact hu c hc
      · intro t ht
        rw [List.getElem?_set_ne (fun e : d = t => ht (by subst e; exact hd))]
    cases hd : x.dst with
    | none =>
      simp only
      exact step ts hlen (fun d e => by rw [hd] at e; cases e) (fun _ _ => rfl)
    | some d =>
      simp only
      cases hw : waitsFor o.after.toList k with
      | true =>
        simp only
        refine setCase d _ hd fun c hc => ?_
        rw [hvh]
        cases hv : vals[k]? with
        | none => exact .junk
        | some u => exact h.done k d x u c hxk hd (h1 k hw) hv hc
      | false =>
        simp only
        cases hw2 : waitsFor x.after.toList i with
        | false => exact setCase d _ hd fun c hc => .junk
        | true =>
          simp only
          refine step ts hlen ?_ (fun _ _ => rfl)
          intro d' hd' u c hu hc
          rw [hd] at hd'; injection hd' with hd'; subst hd'
          rw [hb d k x (Nat.le_refl _) hxk hd] at hu
          refine h.base d u c hu hc fun j y hy hyd => ?_
          have := dst_inj hn hxk hy hd hyd
          subst this
          exact h2 k x hxk hw2
theorem tAll_get : ∀ (ops : List Oper) (vals : List VV) (ts : List VV), ops.length = vals.length → (dstsOf ops).Nodup → (tAll ops vals ts).length = ts.length ∧
    (∀ t, t ∉ dstsOf ops → (tAll ops vals ts)[t]? = ts[t]?) ∧ (∀ (j t : Nat) (x : Oper) (u : VV), ops[j]? = some x → x.dst = some t → vals[j]? = some u → t < ts.length → (tAll ops vals ts)[t]? = some u)
  | [], [], ts, _, _ => ⟨rfl, fun _ _ => rfl, fun j t x u h => by simp at h⟩
  | x :: r, v :: vs, ts, hl, hn => by
    simp only [List.length_cons] at hl
    simp only [tAll]
    cases hd : x.dst with
    | none =>
      simp only
      have hn' : (dstsOf r).Nodup := by simpa [dstsOf, hd] using hn
      obtain ⟨a1, a2, a3⟩ := tAll_get r vs ts (by omega) hn'
      refine ⟨a1, fun t ht => a2 t (by simpa [dstsOf, hd] using ht), fun j t y u hy hyd hu hlt => ?_⟩
      cases j with
      | zero => simp at hy; subst hy; rw [hd] at hyd; cases hyd
      | succ j => simp at hy hu; exact a3 j t y u hy hyd hu hlt
    | some d =>
      simp only
      have hn' : d ∉ dstsOf r ∧ (dstsOf r).Nodup := by simpa [dstsOf, hd] using hn
      obtain ⟨a1, a2, a3⟩ := tAll_get r vs (ts.set d v) (by omega) hn'.2
      refine ⟨by simpa using a1, fun t ht => ?_, fun j t y u hy hyd hu hlt => ?_⟩
      · have ht' : ¬ (t = d ∨ t ∈ dstsOf r) := by simpa [dstsOf, hd] using ht
        rw [a2 t (fun h => ht' (.inr h)), List.getElem?_set_ne (fun e => ht' (.inl e.symm))]
      · cases j with
        | zero =>
          simp at hy hu
          subst hy hu
          rw [hd] at hyd; injection hyd with hyd; subst hyd
          rw [a2 d hn'.1, List.getElem?_set_self hlt]
        | succ j => simp at hy hu; exact a3 j t y u hy hyd hu (by simpa using hlt)
  | [], _ :: _, _, h, _ => by simp at h
  | _ :: _, [], _, h, _ => by simp at h
theorem TInv.all {ops : List Oper} {ts0 vals : List VV} {L : Nat → Bool} {cs : List Value} (h : TInv w Z ρ ops ts0 vals L cs) (hn : (dstsOf ops).Nodup) (hl : ops.length = vals.length) (hL : ∀ j, j < ops.length → L j = true) : Pw (VRel w Z ρ) (tAll ops vals ts0) cs := by
  obtain ⟨a1, a2, a3⟩ := tAll_get ops vals ts0 hl hn
  refine ⟨a1.trans h.len, fun t u c hu hc => ?_⟩
  by_cases ht : t ∈ dstsOf ops
  · obtain ⟨j, x, hx, hxd⟩ : ∃ (j : Nat) (x : Oper), ops[j]? = some x ∧ x.dst = some t := by
      clear a1 a2 a3 h hn hl hL hu hc
      induction ops with
      | nil => simp [dstsOf] at ht
      | cons y r ih =>
        simp only [dstsOf] at ht
        cases hd : y.dst with
        | none =>
          simp only [hd] at ht
          obtain ⟨j, x, hx, hxd⟩ := ih ht
          exact ⟨j + 1, x, by simpa using hx, hxd⟩
        | some d =>
          simp only [hd] at ht
          rcases List.mem_cons.1 ht with rfl | ht
          · exact ⟨0, y, rfl, hd⟩
          · obtain ⟨j, x, hx, hxd⟩ := ih ht
            exact ⟨j + 1, x, by simpa using hx, hxd⟩
    have hj := (List.getElem?_eq_some_iff.1 hx).1
    have hv : vals[j]? = some (vals[j]'(by omega)) := List.getElem?_eq_getElem _
    have hlt : t < ts0.length := by
      have := (List.getElem?_eq_some_iff.1 hc).1
      have := h.len
      omega
    rw [a3 j t x _ hx hxd hv hlt] at hu
    injection hu with hu
    exact hu ▸ h.done j t x _ c hx hxd (hL j hj) hv hc
  · rw [a2 t ht] at hu
    refine h.base t u c hu hc fun j x hx hxd => ?_
    exact absurd (mem_dstsOf (List.mem_of_getElem? hx) hxd) ht
end
end Go.Proofs.Ytbnemkdkeaiaoaa
