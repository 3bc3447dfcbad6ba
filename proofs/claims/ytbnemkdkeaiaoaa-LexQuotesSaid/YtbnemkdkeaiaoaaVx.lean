/- A region that draws its order: whatever the order, what comes out is what the order of the text gives. Over any program. -/
import Derived.Test.YtbnemkdkeaiaoaaVw
namespace Go.Proofs.Ytbnemkdkeaiaoaa
open Go Go.RowKit
set_option linter.unusedSimpArgs false
set_option linter.unusedVariables false

def cnt (f : Nat → Bool) : Nat → Nat
  | 0 => 0
  | n + 1 => cnt f n + (match f n with | true => 1 | false => 0)
theorem cnt_congr {f g : Nat → Bool} : ∀ {n : Nat}, (∀ j, j < n → f j = g j) → cnt f n = cnt g n
  | 0, _ => rfl
  | n + 1, h => by rw [cnt, cnt, cnt_congr (fun j hj => h j (by omega)), h n (by omega)]
theorem cnt_le {f g : Nat → Bool} : ∀ {n : Nat}, (∀ j, j < n → f j = true → g j = true) → cnt f n ≤ cnt g n
  | 0, _ => Nat.le_refl _
  | n + 1, h => by
    have ih := cnt_le (n := n) (fun j hj => h j (by omega))
    simp only [cnt]
    cases hf : f n with
    | false => exact Nat.le_trans ih (Nat.le_add_right _ _)
    | true => rw [h n (by omega) hf]; simp; omega
theorem cnt_add {f g e : Nat → Bool} : ∀ {n : Nat}, (∀ j, j < n → f j = true → e j = true) → (∀ j, j < n → g j = true → e j = true ∧ f j = false) → cnt f n + cnt g n ≤ cnt e n
  | 0, _, _ => Nat.le_refl _
  | n + 1, h1, h2 => by
    have ih := cnt_add (n := n) (fun j hj => h1 j (by omega)) (fun j hj => h2 j (by omega))
    simp only [cnt]
    cases hf : f n with
    | true =>
      have hg : g n = false := by
        cases hg : g n with
        | false => rfl
        | true => have := (h2 n (by omega) hg).2; rw [hf] at this; cases this
      rw [hg, h1 n (by omega) hf]; simp; omega
    | false =>
      cases hg : g n with
      | true => rw [(h2 n (by omega) hg).1]; simp; omega
      | false => simp; omega
theorem cnt_set {f g : Nat → Bool} {i : Nat} : ∀ {n : Nat}, i < n → f i = false → g i = true → (∀ j, j ≠ i → g j = f j) → cnt g n = cnt f n + 1
  | 0, h, _, _, _ => by omega
  | n + 1, h, hf, hg, ho => by
    simp only [cnt]
    by_cases e : i = n
    · subst e
      rw [hf, hg, cnt_congr (f := g) (g := f) (fun j hj => ho j (by omega))]
      rfl
    · rw [cnt_set (by omega) hf hg ho, ho n (fun e' => e e'.symm)]
      omega

/-- j must have been carried out ahead of i. -/
inductive Anc (ops : List Oper) : Nat → Nat → Prop
  | edge {i : Nat} {o : Oper} {e : Edge} (hi : ops[i]? = some o) (he : e ∈ o.after.toList) (hb : bindsA e = true) : Anc ops i e.on
  | trans {i j k : Nat} (h : Anc ops i j) (g : Anc ops j k) : Anc ops i k
theorem anc_closed {ops : List Oper} {L : Nat → Bool} (hc : ∀ i o, ops[i]? = some o → L i = true → ∀ e ∈ o.after.toList, bindsA e = true → L e.on = true) {i j : Nat} (h : Anc ops i j) : L i = true → L j = true := by
  induction h with
  | edge hi he hb => exact fun hL => hc _ _ hi hL _ he hb
  | trans _ _ ih1 ih2 => exact fun hL => ih2 (ih1 hL)
theorem anc_ready {ops : List Oper} {L : Nat → Bool} (hc : ∀ i o, ops[i]? = some o → L i = true → ∀ e ∈ o.after.toList, bindsA e = true → L e.on = true) {i j : Nat} (h : Anc ops i j) :
    (∀ o, ops[i]? = some o → ∀ e ∈ o.after.toList, bindsA e = true → L e.on = true) → L j = true := by
  induction h with
  | edge hi he hb => exact fun hr => hr _ hi _ he hb
  | trans h1 h2 ih1 ih2 => exact fun hr => anc_closed hc h2 (ih1 hr)

section
variable {P : Program} {s : VSt} {ops : Array Oper} {vals : List VV} {G : Nat → Heap} {ev : Nat → Bool}
/-- What each operation must do, for the region to be carried out. -/
structure DrawOK (P : Program) (ops : Array Oper) (ts0 vals : List VV) (G : Nat → Heap) (ev : Nat → Bool) : Prop where
  len : ops.toList.length = vals.length
  nodup : (dstsOf ops.toList).Nodup
  back : ∀ i o, ops.toList[i]? = some o → ∀ e ∈ o.after.toList, bindsA e = true → e.on < i
  order : ∀ i j, i < ops.size → ev i = true → ev j = true → j < i → Anc ops.toList i j
  skip : ∀ i o, ops.toList[i]? = some o → vwanted ops o (tFor i o ops.toList 0 vals ts0) = some false → vals[i]? = some (.tp []) ∧ ev i = false
  some_ : ∀ i o, ops.toList[i]? = some o → vwanted ops o (tFor i o ops.toList 0 vals ts0) ≠ none
  event : ∀ i o v, ops.toList[i]? = some o → vwanted ops o (tFor i o ops.toList 0 vals ts0) = some true → ev i = true → vals[i]? = some v →
    VOne P o (tFor i o ops.toList 0 vals ts0) (G (cnt (fun j => ev j && Nat.blt j i) ops.size)) (fun x K => x = v ∧ K = G (cnt (fun j => ev j && Nat.blt j i) ops.size + 1))
  other : ∀ i o v p, ops.toList[i]? = some o → vwanted ops o (tFor i o ops.toList 0 vals ts0) = some true → ev i = false → vals[i]? = some v →
    (∀ A : Nat → Bool, (∀ j, A j = true → ev j = true ∧ Anc ops.toList i j) → cnt A ops.size ≤ p) → (∀ D : Nat → Bool, (∀ j, D j = true → ev j = true ∧ Anc ops.toList j i) → p + cnt D ops.size ≤ cnt ev ops.size) →
    VOne P o (tFor i o ops.toList 0 vals ts0) (G p) (fun x K => x = v ∧ K = G p)
theorem ready_mem {listed : Array Bool} {i : Nat} (h : i ∈ Region.ready .any ops listed) : ∃ o, ops[i]? = some o ∧ i < ops.size ∧ listed.getD i true = false ∧ ∀ e ∈ o.after.toList, bindsA e = true → listed.getD e.on false = true := by
  simp only [Region.ready, List.mem_filter, List.mem_range, Bool.and_eq_true, Bool.not_eq_true'] at h
  obtain ⟨h1, h2, h3⟩ := h
  have ho : ops[i]? = some ops[i] := Array.getElem?_eq_getElem h1
  rw [ho] at h3
  refine ⟨_, ho, h1, h2, fun e he hb => ?_⟩
  simp only [Option.map_some, Option.getD_some, Array.all_eq_true'] at h3
  have := h3 e (by simpa using he)
  simpa [bindsA] using (by simpa [show Region.binds .any e = true from hb] using this : listed.getD e.on false = true)
theorem ready_nil {listed : Array Bool} (hs : listed.size = ops.size) (hback : ∀ i o, ops.toList[i]? = some o → ∀ e ∈ o.after.toList, bindsA e = true → e.on < i) (h : Region.ready .any ops listed = []) : ∀ i, i < ops.size → listed.getD i false = true := by
  intro i
  induction i using Nat.strongRecOn with
  | _ i ih =>
    intro hi
    cases hl : listed.getD i false with
    | true => rfl
    | false =>
      exfalso
      have ho : ops[i]? = some ops[i] := Array.getElem?_eq_getElem hi
      have hlt : listed.getD i true = false := by
        rw [Array.getD_eq_getD_getElem?] at hl ⊢
        rw [Array.getElem?_eq_getElem (show i < listed.size by omega)] at hl ⊢
        exact hl
      have : i ∈ Region.ready .any ops listed := by
        simp only [Region.ready, List.mem_filter, List.mem_range, Bool.and_eq_true, Bool.not_eq_true']
        refine ⟨hi, hlt, ?_⟩
        rw [ho]
        simp only [Option.map_some, Option.getD_some, Array.all_eq_true']
        intro e he
        cases hb : Region.binds .any e with
        | false => rfl
        | true =>
          simp only [Bool.not_true, Bool.false_or]
          have hlt := hback i ops[i] (by simp [hi]) e (by simpa using he) hb
          exact ih e.on hlt (by omega)
      rw [h] at this
      cases this
theorem VWP.draw {r : Option Nat} {Q : Exit → VSt → Prop} {id : Nat} (hm : P.follows .mixedOrders = true) (hd : DrawOK P ops s.tmps vals G ev) (hG : G 0 = s.heap) (h : Q .normal ⟨tAll ops.toList vals s.tmps, G (cnt ev ops.size), s.marks⟩) : VWP P r (.region id ops true) Q s := fun B M Z ρ a w rr QE h0 h1 h2 h3 => by
  refine wpIn_region_any hm ?_
  have key : ∀ (fuel : Nat) (listed : Array Bool) (a' : Act) (w' : World) (Z' : Nat → Prop) (ρ' : Nat → Option (Nat × Nat)), listed.size = ops.size → cnt (fun j => !listed.getD j false) ops.size ≤ fuel →
      (∀ i o, ops.toList[i]? = some o → listed.getD i false = true → ∀ e ∈ o.after.toList, bindsA e = true → listed.getD e.on false = true) →
      Ext (own B M) s.heap.next Z ρ w (G (cnt (fun j => ev j && listed.getD j false) ops.size)).next Z' ρ' w' → Rel B M Z' ρ' (G (cnt (fun j => ev j && listed.getD j false) ops.size)) w' →
      TInv w' Z' ρ' ops.toList s.tmps vals (fun j => listed.getD j false) a'.tmps.toList → DRel ρ' s.marks a'.defers → wpAnyIn (FW rr) 0 P .any ops QE fuel listed a' w' := by
    intro fuel
    induction fuel with
    | zero =>
      intro listed a' w' Z' ρ' hs hf hcl e1 r1 t1 d1
      have hall : ∀ i, i < ops.size → listed.getD i false = true := by
        intro i hi
        cases hl : listed.getD i false with
        | true => rfl
        | false =>
          exfalso
          have : cnt (fun j => Nat.beq j i) ops.size ≤ cnt (fun j => !listed.getD j false) ops.size := cnt_le fun j hj hb => by
            have := Nat.eq_of_beq_eq_true hb
            subst this
            simp only [hl, Bool.not_false]
          have h1' : cnt (fun j => Nat.beq j i) ops.size = cnt (fun _ => false) ops.size + 1 := cnt_set hi rfl (Nat.beq_refl i) (fun j hj => by
            rcases beq_cases j i with ⟨hb, e⟩ | ⟨hb, _⟩
            · exact absurd e hj
            · exact hb)
          omega
      have hready : Region.ready .any ops listed = [] := by
        apply List.eq_nil_iff_forall_not_mem.2
        intro i hi
        obtain ⟨o, _, hlt, hl, _⟩ := ready_mem hi
        have := hall i hlt
        rw [Array.getD_eq_getD_getElem?] at this hl
        rw [Array.getElem?_eq_getElem (show i < listed.size by omega)] at this hl
        simp at this hl
        rw [this] at hl
        cases hl
      refine ⟨hready, ?_⟩
      have hc : cnt (fun j => ev j && listed.getD j false) ops.size = cnt ev ops.size := cnt_congr fun j hj => by rw [hall j hj, Bool.and_true]
      rw [hc] at e1 r1
      exact h3 _ _ _ _ _ _ h e1 r1 ⟨t1.all hd.nodup hd.len (fun j hj => hall j (by simpa using hj)), d1⟩
    | succ fuel ih =>
      intro listed a' w' Z' ρ' hs hf hcl e1 r1 t1 d1
      refine ⟨fun hnil => ?_, fun i hi => ?_⟩
      · have hall := ready_nil hs hd.back hnil
        have hc : cnt (fun j => ev j && listed.getD j false) ops.size = cnt ev ops.size := cnt_congr fun j hj => by rw [hall j hj, Bool.and_true]
        rw [hc] at e1 r1
        exact h3 _ _ _ _ _ _ h e1 r1 ⟨t1.all hd.nodup hd.len (fun j hj => hall j (by simpa using hj)), d1⟩
      · obtain ⟨o, ho, hlt, hl, hre⟩ := ready_mem hi
        have ho' : ops.toList[i]? = some o := by simpa using ho
        have hl' : listed.getD i false = false := by
          rw [Array.getD_eq_getD_getElem?] at hl ⊢
          rw [Array.getElem?_eq_getElem (show i < listed.size by omega)] at hl ⊢
          exact hl
        have hget : ∀ j, (listed.setIfInBounds i true).getD j false = if j = i then true else listed.getD j false := by
          intro j
          simp only [Array.getD_eq_getD_getElem?, Array.getElem?_setIfInBounds]
          by_cases e : i = j
          · subst e; simp [hs, hlt]
          · simp [e, Ne.symm e]
        have hT : Pw (VRel w' Z' ρ') (tFor i o ops.toList 0 vals s.tmps) a'.tmps.toList := by
          have := tFor_rel (L := fun j => listed.getD j false) hd.nodup ho' (fun j hj => ?_) (fun j x hx hw => ?_) t1 ops.toList 0 s.tmps rfl t1.len ?_ (fun _ _ _ _ _ _ => rfl)
          · simpa using this
          · obtain ⟨e, he, rfl, hb⟩ := waitsFor_iff hj
            exact hre e he hb
          · cases hlj : listed.getD j false with
            | false => rfl
            | true =>
              obtain ⟨e, he, hon, hb⟩ := waitsFor_iff hw
              have := hcl j x hx hlj e he hb
              rw [hon, hl'] at this
              cases this
          · intro t u c hu hc hno
            exact t1.base t u c hu hc fun j x hx hxd => absurd hxd (hno j x (Nat.zero_le _) hx)
        have hvl : ∃ v, vals[i]? = some v := ⟨vals[i]'(by rw [← hd.len]; simpa using hlt), List.getElem?_eq_getElem _⟩
        obtain ⟨v, hv⟩ := hvl
        -- behind the operation
        have behind : ∀ (v' : Value) (w2 : World) (Z2 : Nat → Prop) (ρ2 : Nat → Option (Nat × Nat)), Ext (own B M) (G (cnt (fun j => ev j && listed.getD j false) ops.size)).next Z' ρ' w' (G (cnt (fun j => ev j && (listed.setIfInBounds i true).getD j false) ops.size)).next Z2 ρ2 w2 →
            Rel B M Z2 ρ2 (G (cnt (fun j => ev j && (listed.setIfInBounds i true).getD j false) ops.size)) w2 → VRel w2 Z2 ρ2 v v' → wpAnyIn (FW rr) 0 P .any ops QE fuel (listed.setIfInBounds i true) (a'.put o.dst v') w2 := by
          intro v' w2 Z2 ρ2 e2 r2 vr
          refine ih _ _ _ Z2 ρ2 (by simpa using hs) ?_ ?_ (e1.trans e2) r2 ?_ ?_
          · have := cnt_set (f := fun j => !(listed.setIfInBounds i true).getD j false) (g := fun j => !listed.getD j false) (n := ops.size) hlt (by rw [hget]; simp) (by simp only [hl', Bool.not_false]) (fun j hj => by rw [hget, if_neg hj])
            omega
          · intro j x hx hLj e he hb
            rw [hget] at hLj ⊢
            by_cases e' : j = i
            · subst e'
              rw [ho'] at hx; injection hx with hx; subst hx
              split
              · rfl
              · exact hre e he hb
            · rw [if_neg e'] at hLj
              split
              · rfl
              · exact hcl j x hx hLj e he hb
          · have tt : TInv w2 Z2 ρ2 ops.toList s.tmps vals (fun j => listed.getD j false) a'.tmps.toList := ⟨t1.len, fun t u c g1 g2 g3 => (t1.base t u c g1 g2 g3).ext e2, fun j t x u c g1 g2 g3 g4 g5 => (t1.done j t x u c g1 g2 g3 g4 g5).ext e2⟩
            cases hdst : o.dst with
            | none =>
              refine ⟨tt.len, fun t u c g1 g2 g3 => tt.base t u c g1 g2 fun j x hx hxd => ?_, fun j t x u c g1 g2 g3 g4 g5 => ?_⟩
              · have := g3 j x hx hxd
                rw [hget] at this
                split at this
                · cases this
                · exact this
              · rw [hget] at g3
                split at g3
                · rename_i e'; subst e'; rw [ho'] at g1; injection g1 with g1; subst g1; rw [hdst] at g2; cases g2
                · exact tt.done j t x u c g1 g2 g3 g4 g5
            | some d =>
              have hset : (a'.put (some d) v').tmps.toList = a'.tmps.toList.set d v' := by simp [Act.put]
              rw [hset]
              refine ⟨by rw [List.length_set]; exact tt.len, fun t u c g1 g2 g3 => ?_, fun j t x u c g1 g2 g3 g4 g5 => ?_⟩
              · have hne : d ≠ t := fun e' => by
                  subst e'
                  have := g3 i o ho' hdst
                  rw [hget, if_pos rfl] at this
                  cases this
                rw [List.getElem?_set_ne hne] at g2
                refine tt.base t u c g1 g2 fun j x hx hxd => ?_
                have := g3 j x hx hxd
                rw [hget] at this
                split at this
                · cases this
                · exact this
              · by_cases e' : j = i
                · subst e'
                  rw [ho'] at g1; injection g1 with g1; subst g1
                  rw [hdst] at g2; injection g2 with g2; subst g2
                  rw [hv] at g4; injection g4 with g4; subst g4
                  have hlt' : d < a'.tmps.toList.length := by
                    have := (List.getElem?_eq_some_iff.1 g5).1
                    simpa using this
                  rw [List.getElem?_set_self hlt'] at g5
                  injection g5 with g5
                  exact g5 ▸ vr
                · have hne : d ≠ t := fun e'' => by
                    subst e''
                    exact e' (dst_inj hd.nodup g1 ho' g2 hdst)
                  rw [List.getElem?_set_ne hne] at g5
                  rw [hget, if_neg e'] at g3
                  exact tt.done j t x u c g1 g2 g3 g4 g5
          · have := d1.ext e2
            cases hdst : o.dst <;> simpa [Act.put] using this
        -- the number of events so far
        have hcnt : ∀ (hev : ev i = true), cnt (fun j => ev j && listed.getD j false) ops.size = cnt (fun j => ev j && Nat.blt j i) ops.size ∧ cnt (fun j => ev j && (listed.setIfInBounds i true).getD j false) ops.size = cnt (fun j => ev j && Nat.blt j i) ops.size + 1 := by
          intro hev
          have e1 : cnt (fun j => ev j && listed.getD j false) ops.size = cnt (fun j => ev j && Nat.blt j i) ops.size := cnt_congr fun j hj => by
            cases hej : ev j with
            | false => rfl
            | true =>
              simp only [Bool.true_and]
              rcases Nat.lt_trichotomy j i with hlt' | heq | hgt
              · have h4 : listed.getD j false = true := anc_ready hcl (hd.order i j hlt hev hej hlt') (fun x hx e he hb => by rw [ho'] at hx; injection hx with hx; subst hx; exact hre e he hb)
                have h5 : Nat.blt j i = true := Nat.ble_eq_true_of_le hlt'
                rw [h4, h5]
              · subst heq
                have h5 : Nat.blt j j = false := by
                  cases hb : Nat.blt j j with
                  | false => rfl
                  | true => have := Nat.le_of_ble_eq_true hb; omega
                rw [hl', h5]
              · have h5 : Nat.blt j i = false := by
                  cases hb : Nat.blt j i with
                  | false => rfl
                  | true => have := Nat.le_of_ble_eq_true hb; omega
                rw [h5]
                cases h4 : listed.getD j false with
                | false => rfl
                | true =>
                  have := anc_closed hcl (hd.order j i hj hej hev hgt) h4
                  rw [hl'] at this
                  cases this
          refine ⟨e1, ?_⟩
          rw [← e1]
          exact cnt_set hlt (by simp only [hl', Bool.and_false]) (by rw [hget, if_pos rfl, hev]; rfl) (fun j hj => by rw [hget, if_neg hj])
        have hsame : ∀ (hev : ev i = false), cnt (fun j => ev j && (listed.setIfInBounds i true).getD j false) ops.size = cnt (fun j => ev j && listed.getD j false) ops.size := fun hev => cnt_congr fun j hj => by
          rw [hget]
          split
          · rename_i e'; subst e'; rw [hev]; rfl
          · rfl
        unfold wpOpIn
        rw [ho]
        simp only
        cases hw : vwanted ops o (tFor i o ops.toList 0 vals s.tmps) with
        | none => exact absurd hw (hd.some_ i o ho')
        | some b =>
          have hwr := vwanted_sound hw hT
          cases b with
          | false =>
            simp only [hwr, Bool.false_eq_true, if_false]
            obtain ⟨hv0, hev⟩ := hd.skip i o ho' hw
            rw [hv] at hv0; injection hv0 with hv0; subst hv0
            refine ⟨fun f _ => FW_fn _ f, behind undef w' Z' ρ' ?_ ?_ VRel.undef⟩
            · rw [hsame hev]; exact Ext.refl _ _ _ _
            · rw [hsame hev]; exact r1
          | true =>
            simp only [hwr, if_true]
            cases hev : ev i with
            | true =>
              obtain ⟨c1, c2⟩ := hcnt hev
              have := hd.event i o v ho' hw hev hv
              rw [c1] at r1
              refine this B M Z' ρ' a' w' rr _ QE r1 hT ?_
              rintro v' x H' Z2 ρ2 w2 ⟨rfl, rfl⟩ e2 r2 vr
              exact behind v' w2 Z2 ρ2 (by rw [c2, c1]; exact e2) (by rw [c2]; exact r2) vr
            | false =>
              have := hd.other i o v (cnt (fun j => ev j && listed.getD j false) ops.size) ho' hw hev hv
                (fun A hA => cnt_le fun j hj hAj => by
                  obtain ⟨g1, g2⟩ := hA j hAj
                  have : listed.getD j false = true := anc_ready hcl g2 (fun x hx e he hb => by rw [ho'] at hx; injection hx with hx; subst hx; exact hre e he hb)
                  rw [g1, this]; rfl)
                (fun D hD => cnt_add (fun j hj hb => by
                    cases hej : ev j with
                    | true => rfl
                    | false => simp [hej] at hb) (fun j hj hDj => by
                  obtain ⟨g1, g2⟩ := hD j hDj
                  refine ⟨g1, ?_⟩
                  cases hlj : listed.getD j false with
                  | false => simp
                  | true =>
                    have := anc_closed hcl g2 hlj
                    rw [hl'] at this
                    cases this))
              refine this B M Z' ρ' a' w' rr _ QE r1 hT ?_
              rintro v' x H' Z2 ρ2 w2 ⟨rfl, rfl⟩ e2 r2 vr
              exact behind v' w2 Z2 ρ2 (by rw [hsame hev]; exact e2) (by rw [hsame hev]; exact r2) vr
  have hinit : ∀ j, (Array.replicate ops.size false).getD j false = false := fun j => by
    simp only [Array.getD_eq_getD_getElem?, Array.getElem?_replicate]
    split <;> rfl
  have hc0 : cnt (fun j => ev j && (Array.replicate ops.size false).getD j false) ops.size = 0 := by
    have : ∀ n, cnt (fun _ => false) n = 0 := fun n => by induction n with | zero => rfl | succ n ih => simp [cnt, ih]
    rw [cnt_congr (g := fun _ => false) (fun j _ => by rw [hinit]; simp), this]
  refine key ops.size (Array.replicate ops.size false) a _ Z ρ (by simp) ?_ ?_ ?_ ?_ ?_ h2.marks
  · have : ∀ (f : Nat → Bool) (n : Nat), cnt f n ≤ n := fun f n => by
      induction n with
      | zero => exact Nat.le_refl _
      | succ n ih => rw [cnt]; split <;> omega
    exact this _ _
  · intro i o _ hL
    rw [hinit] at hL
    cases hL
  · rw [hc0, hG]
    exact Ext.drew
  · rw [hc0, hG]
    exact h1.drew
  · refine ⟨by have := h2.tmps.1; simpa using this, fun t u c g1 g2 _ => (h2.tmps.2 t u c g1 g2).ext (Ext.drew (X := fun _ => False) (n := 0)), fun j t x u c _ _ g3 => ?_⟩
    rw [hinit] at g3
    cases g3
end
end Go.Proofs.Ytbnemkdkeaiaoaa
