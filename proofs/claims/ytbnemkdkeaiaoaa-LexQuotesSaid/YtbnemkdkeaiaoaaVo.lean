/- The walk's operations on virtual values: what each hands back, and that the model's own does so. Over any program. -/
import Derived.Test.YtbnemkdkeaiaoaaVm
import Derived.Orders
namespace Go.Proofs.Ytbnemkdkeaiaoaa
open Go Go.RowKit
set_option linter.unusedSimpArgs false
set_option linter.unusedVariables false

def plainL : List VV → Option (List Value)
  | [] => some []
  | .sc v :: r => match plainL r with
    | some l => some (v :: l)
    | none => none
  | _ => none
def plain : VV → Option Value
  | .sc v => some v
  | .ag vs => match plainL vs with
    | some l => some (.agg l.toArray)
    | none => none
  | _ => none
def ofV : Value → VV
  | .agg cs => match cs.toList.all (·.oneCell') with
    | true => .ag (cs.toList.map .sc)
    | false => .junk
  | .tuple cs => match cs.toList.all (·.oneCell') with
    | true => .tp (cs.toList.map .sc)
    | false => .junk
  | v => .sc v
section
variable {w : World} {Z : Nat → Prop} {ρ : Nat → Option (Nat × Nat)}
theorem plainL_eq : ∀ {vs : List VV} {l cs : List Value}, plainL vs = some l → Pw (VRel w Z ρ) vs cs → cs = l
  | [], l, cs, h, hp => by
    simp [plainL] at h
    subst h
    exact List.eq_nil_of_length_eq_zero hp.1.symm
  | v :: r, l, [], h, hp => by have := hp.1; simp at this
  | v :: r, l, c :: cs, h, hp => by
    have hv := hp.2 0 v c rfl rfl
    have ht : Pw (VRel w Z ρ) r cs := ⟨by have := hp.1; simpa using this, fun i u c hu hc => hp.2 (i + 1) u c (by simpa using hu) (by simpa using hc)⟩
    cases v with
    | sc x =>
      simp only [plainL] at h
      cases hr : plainL r with
      | none => simp [hr] at h
      | some l' =>
        simp [hr] at h
        subst h
        cases hv
        rw [plainL_eq hr ht]
    | _ => simp [plainL] at h
theorem plain_eq {v : VV} {x y : Value} (h : plain v = some x) (hv : VRel w Z ρ v y) : y = x := by
  cases v with
  | sc u => simp [plain] at h; subst h; cases hv; rfl
  | ag vs =>
    simp only [plain] at h
    cases hr : plainL vs with
    | none => simp [hr] at h
    | some l =>
      simp [hr] at h
      subst h
      cases hv with
      | ag h1 r1 =>
        have := plainL_eq hr ⟨h1, r1⟩
        rw [← this]
  | _ => simp [plain] at h
theorem pw_sc : ∀ {l : List Value}, l.all (·.oneCell') = true → Pw (VRel w Z ρ) (l.map .sc) l
  | [], _ => Pw.nil
  | v :: r, h => by
    simp only [List.all_cons, Bool.and_eq_true] at h
    exact Pw.cons (.sc h.1) (pw_sc h.2)
theorem ofV_rel (v : Value) : VRel w Z ρ (ofV v) v := by
  cases v <;> first
    | exact .sc rfl
    | (simp only [ofV]; split
       · rename_i h; first | exact .ag' (pw_sc h) | exact .tp' (pw_sc h)
       · exact .junk)
end

/-- A run that looks at nothing but the program. -/
def pureRun {α : Type} (P : Program) : Sem α → Option α
  | .pure a => some a
  | .program k => pureRun P (k P)
  | .mark _ k => pureRun P k
  | _ => none
theorem pureRun_sound {α : Type} {P : Program} : ∀ {s : Sem α} {a : α} (w : World), pureRun P s = some a → s.run P w = .ok a w
  | .pure x, a, w, h => by simp [pureRun] at h; subst h; rfl
  | .program k, a, w, h => by simp only [pureRun] at h; simp only [Sem.run]; exact pureRun_sound w h
  | .mark m k, a, w, h => by simp only [pureRun] at h; simp only [Sem.run]; exact pureRun_sound w h
  | .load .., a, w, h => by simp [pureRun] at h
  | .store .., a, w, h => by simp [pureRun] at h
  | .new .., a, w, h => by simp [pureRun] at h
  | .shape .., a, w, h => by simp [pureRun] at h
  | .freeze .., a, w, h => by simp [pureRun] at h
  | .frozen .., a, w, h => by simp [pureRun] at h
  | .getObj .., a, w, h => by simp [pureRun] at h
  | .setObj .., a, w, h => by simp [pureRun] at h
  | .choose .., a, w, h => by simp [pureRun] at h
  | .sys .., a, w, h => by simp [pureRun] at h
  | .halt .., a, w, h => by simp [pureRun] at h

def veval (ts : List VV) : Operand → VV
  | .tmp t => (ts[t]?).getD (.tp [])
  | .const v => ofV v
  | .global g => .sc (.pointer (some ⟨g, 0, none⟩))
  | .func f => .fn (.func f) [] []
theorem veval_rel {w : World} {Z : Nat → Prop} {ρ : Nat → Option (Nat × Nat)} {ts : List VV} {a : Act} (h : Pw (VRel w Z ρ) ts a.tmps.toList) (x : Operand) : VRel w Z ρ (veval ts x) (a.eval x) := by
  cases x with
  | tmp t =>
    simp only [veval, Act.eval, Array.getD_eq_getD_getElem?]
    cases hu : ts[t]? with
    | none =>
      have h1 : a.tmps[t]? = none := by
        have := List.getElem?_eq_none_iff.1 hu
        have h2 := h.1
        simp at h2
        exact Array.getElem?_eq_none (by omega)
      rw [h1]
      exact VRel.undef
    | some u =>
      obtain ⟨c, hc, hr⟩ := h.get hu
      have h1 : a.tmps[t]? = some c := by simpa using hc
      rw [h1]
      exact hr
  | const v => exact ofV_rel v
  | global g => exact .sc rfl
  | func f => exact .fn rfl (fun i u c hu => by simp at hu) rfl (fun i u c hu => by simp at hu)

def allPlain (ev : Operand → VV) : List Operand → Bool
  | [] => true
  | x :: r => match plain (ev x) with
    | some _ => allPlain ev r
    | none => false
theorem allPlain_mem {ev : Operand → VV} : ∀ {l : List Operand}, allPlain ev l = true → ∀ x ∈ l, ∃ v, plain (ev x) = some v
  | [], _, x, hx => by simp at hx
  | y :: r, h, x, hx => by
    simp only [allPlain] at h
    split at h
    · rename_i v hv
      rcases List.mem_cons.1 hx with rfl | hx
      · exact ⟨v, hv⟩
      · exact allPlain_mem h x hx
    · simp at h
def vplain (P : Program) (o : Oper) (ev : Operand → VV) : Option VV :=
  match o.op with
  | .select _ _ => none
  | .defer _ => none
  | _ => match allPlain ev o.op.operands.toList with
    | true => match pureRun P (execOp (fun x => (plain (ev x)).getD undef) o) with
      | some (.value v) => some (ofV v)
      | _ => none
    | false => none
theorem vplain_sound {P : Program} {o : Oper} {ev : Operand → VV} {aev : Operand → Value} {w : World} {Z : Nat → Prop} {ρ : Nat → Option (Nat × Nat)} {v : VV} (h : vplain P o ev = some v)
    (hr : ∀ x, VRel w Z ρ (ev x) (aev x)) : ∃ v', (execOp aev o).run P w = .ok (.value v') w ∧ VRel w Z ρ v v' := by
  have key : ∀ (hs : ∀ cs b, o.op ≠ .select cs b) (h : (match allPlain ev o.op.operands.toList with
    | true => match pureRun P (execOp (fun x => (plain (ev x)).getD undef) o) with
      | some (.value v) => some (ofV v)
      | _ => none
    | false => none) = some v), ∃ v', (execOp aev o).run P w = .ok (.value v') w ∧ VRel w Z ρ v v' := by
    intro hs h
    split at h
    · rename_i hp
      have hc : execOp aev o = execOp (fun x => (plain (ev x)).getD undef) o := execOp_congr o hs fun x hx => by
        obtain ⟨u, hu⟩ := allPlain_mem hp x (by simpa using hx)
        rw [plain_eq hu (hr x), hu]; rfl
      split at h
      · rename_i v' hv
        simp at h
        subst h
        exact ⟨v', by rw [hc]; exact pureRun_sound w hv, ofV_rel v'⟩
      · simp at h
    · simp at h
  unfold vplain at h
  split at h
  · simp at h
  · simp at h
  · rename_i hs hd
    exact key (fun cs b e => hs cs b e) h

/-- The cells of a value that may be laid down. -/
def VV.one : VV → Bool
  | .ag _ | .tp _ | .junk => false
  | _ => true
def cellsOf : VV → Option (List VV)
  | .ag vs => match vs.all VV.one with
    | true => some vs
    | false => none
  | .tp _ | .junk => none
  | v => some [v]
section
variable {w : World} {Z : Nat → Prop} {ρ : Nat → Option (Nat × Nat)}
theorem one_rel {v : VV} {x : Value} (h : VRel w Z ρ v x) (h1 : v.one = true) : x.oneCell' = true := by
  cases h <;> first | rfl | assumption | simp [VV.one] at h1
theorem pw_one : ∀ {vs : List VV} {cs : List Value}, vs.all VV.one = true → Pw (VRel w Z ρ) vs cs → ∀ x ∈ cs, x.oneCell' = true
  | [], cs, _, hp => by
    have : cs = [] := List.eq_nil_of_length_eq_zero hp.1.symm
    subst this; simp
  | v :: r, [], _, hp => by simp
  | v :: r, c :: cs, h, hp => by
    simp only [List.all_cons, Bool.and_eq_true] at h
    have ht : Pw (VRel w Z ρ) r cs := ⟨by have := hp.1; simpa using this, fun i u c hu hc => hp.2 (i + 1) u c (by simpa using hu) (by simpa using hc)⟩
    intro x hx
    rcases List.mem_cons.1 hx with rfl | hx
    · exact one_rel (hp.2 0 v x rfl rfl) h.1
    · exact pw_one h.2 ht x hx
theorem one_cells {x : Value} (h : x.oneCell' = true) : x.cells = #[x] := by
  cases x <;> first | rfl | simp [Value.oneCell'] at h
theorem cellsOf_rel {v : VV} {x : Value} {l : List VV} (h : cellsOf v = some l) (hv : VRel w Z ρ v x) : Pw (VRel w Z ρ) l x.cells.toList ∧ ∀ y ∈ x.cells.toList, y.oneCell' = true := by
  have single : ∀ (h1 : v.one = true) (h2 : l = [v]), Pw (VRel w Z ρ) l x.cells.toList ∧ ∀ y ∈ x.cells.toList, y.oneCell' = true := by
    intro h1 h2
    have h3 := one_rel hv h1
    rw [one_cells h3, h2]
    exact ⟨Pw.cons hv Pw.nil, by simpa using h3⟩
  cases v with
  | ag vs =>
    simp only [cellsOf] at h
    split at h
    · rename_i ha
      simp at h
      subst h
      cases hv with
      | ag h1 r1 => exact ⟨⟨h1, r1⟩, pw_one ha ⟨h1, r1⟩⟩
    · simp at h
  | tp vs => simp [cellsOf] at h
  | junk => simp [cellsOf] at h
  | _ => exact single rfl (by simpa [cellsOf] using h.symm)
end

def vsize (P : Program) (t : TypeId) : Option Nat := (P.info? t).map (·.size)
def vagg (P : Program) (t : TypeId) : Option Bool := match P.underlying t with
  | some (.struct _) => some true
  | some (.array _ _) => some true
  | some _ => some false
  | none => none
/-- A variable read out of cells. -/
def vat (P : Program) (t : TypeId) (vs : List VV) (o : Nat) : Option VV := match vagg P t with
  | some true => match vsize P t with
    | some n => match Nat.ble (o + n) vs.length with
      | true => some (.ag ((vs.drop o).take n))
      | false => none
    | none => none
  | some false => vs[o]?
  | none => none
def vzero (P : Program) (t : TypeId) : Option (List VV) := match P.info? t with
  | some i => match i.zero with
    | some z => cellsOf (ofV z)
    | none => none
  | none => none
section
variable {P : Program} {w : World}
theorem run_sizeOf {t : TypeId} {n : Nat} (h : vsize P t = some n) (w : World) : (sizeOf t).run P w = .ok n w := by
  unfold vsize at h
  cases hi : P.info? t with
  | none => simp [hi] at h
  | some i => simp [hi] at h; simp [sizeOf, typeInfo, hi, h]
theorem run_isAgg {t : TypeId} {b : Bool} (h : vagg P t = some b) (w : World) : (isAgg t).run P w = .ok b w := by
  unfold vagg at h
  split at h <;> simp at h <;> subst h <;> rename_i hu
  · simp [isAgg, run_underlying hu]
  · simp [isAgg, run_underlying hu]
  · rename_i d h1 h2
    simp only [isAgg, Sem.run_bind, run_underlying hu, Result.andThen_ok]
    cases d <;> first | rfl | exact (h1 _ rfl).elim | exact (h2 _ _ rfl).elim
theorem run_loadVar_at {t : TypeId} {vs : List VV} {o : Nat} {v : VV} (h : vat P t vs o = some v) {k o0 : Nat} {cs : List Value} {Z : Nat → Prop} {ρ : Nat → Option (Nat × Nat)} (hp : Pre (VRel w Z ρ) vs cs)
    (hc : ∀ i, i < cs.length → w.cell? ⟨k, o0 + i, none⟩ = cs[i]?) : ∃ v', (loadVar t ⟨k, o0 + o, none⟩).run P w = .ok v' w ∧ VRel w Z ρ v v' := by
  unfold vat at h
  split at h
  · rename_i ha
    split at h
    · rename_i n hn
      split at h
      · rename_i hle
        have hle := Nat.le_of_ble_eq_true hle
        simp at h
        subst h
        have hl := hp.length
        have hl2 : ((cs.drop o).take n).length = n := by simp; omega
        have := run_loadCells_list (P := P) w ⟨k, o0 + o, none⟩ ((cs.drop o).take n) (fun j v hv => by
          have hj : j < n := by
            have := (List.getElem?_eq_some_iff.1 hv).1
            omega
          rw [List.getElem?_take_of_lt hj, List.getElem?_drop] at hv
          rw [add_mk, Nat.add_assoc, hc _ (by omega)]
          exact hv)
        rw [hl2] at this
        refine ⟨_, ?_, .ag' (cs := ((cs.drop o).take n).toArray) (by simpa using hp.part o n hle)⟩
        simp [loadVar, run_isAgg ha, run_sizeOf hn, this]
      · simp at h
    · simp at h
  · rename_i ha
    obtain ⟨c, hc', hr⟩ := hp o v h
    have hlt := (List.getElem?_eq_some_iff.1 hc').1
    refine ⟨c, ?_, hr⟩
    simp [loadVar, run_isAgg ha, run_load, hc o hlt, hc']
  · simp at h
theorem run_zeroValue {t : TypeId} {l : List VV} (h : vzero P t = some l) : ∃ z, (∀ w : World, (zeroValue t).run P w = .ok z w) ∧ (∀ (w : World) Z ρ, Pw (VRel w Z ρ) l z.cells.toList) ∧ (∀ y ∈ z.cells.toList, y.oneCell' = true) ∧ ∃ i, P.info? t = some i ∧ i.zero = some z := by
  unfold vzero at h
  split at h
  · rename_i i hi
    split at h
    · rename_i z hz
      refine ⟨z, fun w => by simp [zeroValue, typeInfo, hi, hz], fun w Z ρ => (cellsOf_rel h (ofV_rel z)).1, (cellsOf_rel (w := default) (Z := fun _ => False) (ρ := fun _ => none) h (ofV_rel z)).2, i, hi, hz⟩
    · simp at h
  · simp at h
end

/-- What an operation must do. -/
def Does (P : Program) (B : World) (M : Nat → Prop) (n : Nat) (Z : Nat → Prop) (ρ : Nat → Option (Nat × Nat)) (w : World) (s : Sem Value) (v : VV) (H' : Heap) : Prop :=
  ∃ v' w' ρ', s.run P w = .ok v' w' ∧ Ext (own B M) n Z ρ w H'.next Z ρ' w' ∧ Rel B M Z ρ' H' w' ∧ VRel w' Z ρ' v v'
section
variable {P : Program} {B : World} {M : Nat → Prop} {Z : Nat → Prop} {ρ : Nat → Option (Nat × Nat)} {w : World} {H : Heap}
theorem Does.same {s : Sem Value} {v : VV} {v' : Value} (h : Rel B M Z ρ H w) (hs : s.run P w = .ok v' w) (hv : VRel w Z ρ v v') : Does P B M H.next Z ρ w s v H := ⟨v', w, ρ, hs, Ext.refl _ _ _ _, h, hv⟩

def valloc (P : Program) (t : TypeId) (H : Heap) : Option (VV × Heap) := match vzero P t with
  | some l => some (.ptr H.next 0, H.add (.cells true l))
  | none => none
theorem does_newRow (h : Rel B M Z ρ H w) {l : List VV} {xs : Array Value} (hl : Pre (VRel w Z ρ) l xs.toList) (t : TypeId) :
    ∃ ρ', (newRow t xs).run P w = .ok ⟨w.heap.size, 0, none⟩ (w.alloc (.cells xs t)) ∧ Ext (own B M) H.next Z ρ w (H.add (.cells true l)).next Z ρ' (w.alloc (.cells xs t)) ∧ Rel B M Z ρ' (H.add (.cells true l)) (w.alloc (.cells xs t)) ∧ ρ' H.next = some (w.heap.size, xs.size) := by
  obtain ⟨e, r⟩ := h.row hl t
  exact ⟨_, by simp [newRow, newObj]; rfl, e, r, upd_self _ _⟩
theorem valloc_sound (h : Rel B M Z ρ H w) {t : TypeId} {v : VV} {H' : Heap} (hv : valloc P t H = some (v, H')) : Does P B M H.next Z ρ w (Instr.alloc t true (.tuple #[])) v H' := by
  unfold valloc at hv
  split at hv
  · rename_i l hl
    simp at hv
    obtain ⟨rfl, rfl⟩ := hv
    obtain ⟨z, hz, hp, _⟩ := run_zeroValue hl
    obtain ⟨ρ', h1, h2, h3, h4⟩ := does_newRow (P := P) h (hp w Z ρ).pre t
    exact ⟨_, _, ρ', by simp [Instr.alloc, hz, newVar, h1], h2, h3, .ptr h4⟩
  · simp at hv
def vbox (x : VV) (H : Heap) : Option (VV × Heap) := match cellsOf x with
  | some l => some (.ptr H.next 0, H.add (.cells true l))
  | none => none
theorem vbox_sound (h : Rel B M Z ρ H w) {t : TypeId} {x v : VV} {x' : Value} {H' : Heap} (hx : VRel w Z ρ x x') (hv : vbox x H = some (v, H')) : Does P B M H.next Z ρ w (Instr.box t x') v H' := by
  unfold vbox at hv
  split at hv
  · rename_i l hl
    simp at hv
    obtain ⟨rfl, rfl⟩ := hv
    obtain ⟨ρ', h1, h2, h3, h4⟩ := does_newRow (P := P) h (cellsOf_rel hl hx).1.pre t
    exact ⟨_, _, ρ', by simp [Instr.box, newVar, h1], h2, h3, .ptr h4⟩
  · simp at hv

def vload (P : Program) (t : TypeId) (a : VV) (H : Heap) : Option VV := match a with
  | .ptr b o => match H.get b with
    | some (.cells _ vs) => vat P t vs o
    | some (.opt vs) => vat P t vs o
    | _ => none
  | .rp vs o => vat P t vs o
  | _ => none
theorem vload_run (h : Rel B M Z ρ H w) {t : TypeId} {a v : VV} {a' : Value} (ha : VRel w Z ρ a a') (hv : vload P t a H = some v) : ∃ v' ad, a' = .pointer (some ad) ∧ (loadVar t ad).run P w = .ok v' w ∧ VRel w Z ρ v v' := by
  unfold vload at hv
  split at hv
  · rename_i b o
    split at hv
    · rename_i r vs hb
      cases ha with
      | ptr hk =>
        obtain ⟨k', N', cs, t', fr, g1, g2, g3, g4, g5⟩ := h.at_ hb
        rw [hk] at g1; injection g1 with g1; injection g1 with g1 g1'; subst g1 g1'
        obtain ⟨v', h1, h2⟩ := run_loadVar_at (P := P) (o0 := 0) hv g4 (fun i hi => by rw [Nat.zero_add, cell_of_cells g2]; simp)
        rw [Nat.zero_add] at h1
        exact ⟨v', _, rfl, h1, h2⟩
    · rename_i vs hb
      cases ha with
      | ptr hk =>
        have hb2 : (H.set b (.cells true vs)).get b = some (.cells true vs) := by rw [Heap.get_set, if_pos rfl, hb]; rfl
        obtain ⟨k', N', cs, t', fr, g1, g2, g3, g4, g5⟩ := (h.toCells hb hk).at_ hb2
        rw [hk] at g1; injection g1 with g1; injection g1 with g1 g1'; subst g1 g1'
        obtain ⟨v', h1, h2⟩ := run_loadVar_at (P := P) (o0 := 0) hv g4 (fun i hi => by rw [Nat.zero_add, cell_of_cells g2]; simp)
        rw [Nat.zero_add] at h1
        exact ⟨v', _, rfl, h1, h2⟩
    · simp at hv
  · cases ha with
    | rp hZ hlen hcell hrel =>
      obtain ⟨v', h1, h2⟩ := run_loadVar_at (P := P) hv (Pw.pre ⟨hlen, hrel⟩) hcell
      exact ⟨v', _, rfl, h1, h2⟩
  · simp at hv
theorem vload_sound (h : Rel B M Z ρ H w) {t : TypeId} {a v : VV} {a' : Value} (ha : VRel w Z ρ a a') (hv : vload P t a H = some v) : Does P B M H.next Z ρ w (Instr.loadAt t a') v H := by
  obtain ⟨v', ad, rfl, h1, h2⟩ := vload_run (P := P) h ha hv
  exact Does.same h (by simp [Instr.loadAt, Instr.sureAddr, h1]) h2
def vstore (P : Program) (t : TypeId) (a x : VV) (H : Heap) : Option Heap := match a with
  | .ptr b o => match H.get b with
    | some (.cells true vs) => match cellsOf x with
      | some l => match vsize P t with
        | some n => match Nat.beq l.length n && Nat.ble (o + l.length) vs.length with
          | true => some (H.set b (.cells true (setRun vs o l)))
          | false => none
        | none => none
      | none => none
    | _ => none
  | _ => none
theorem vstore_sound (h : Rel B M Z ρ H w) {t : TypeId} {a x : VV} {a' x' : Value} {H' : Heap} (ha : VRel w Z ρ a a') (hx : VRel w Z ρ x x') (hv : vstore P t a x H = some H') :
    ∃ w', (Instr.storeAt t a' x').run P w = .ok () w' ∧ Ext (own B M) H.next Z ρ w H'.next Z ρ w' ∧ Rel B M Z ρ H' w' := by
  unfold vstore at hv
  split at hv
  · rename_i b o
    split at hv
    · rename_i vs hb
      split at hv
      · rename_i l hl
        split at hv
        · rename_i n hn
          split at hv
          · rename_i hc
            simp only [Bool.and_eq_true] at hc
            have h1 := Nat.eq_of_beq_eq_true hc.1
            have h2 := Nat.le_of_ble_eq_true hc.2
            simp at hv
            subst hv
            cases ha with
            | ptr hk =>
              obtain ⟨hp, ho⟩ := cellsOf_rel hl hx
              obtain ⟨g1, g2, g3⟩ := h.write (P := P) hb hk hp ho o h2
              have hsz : x'.cells.size = n := by have := hp.1; simp at this; omega
              exact ⟨_, by simp [Instr.storeAt, Instr.sureAddr, storeVar, run_sizeOf hn, hsz, g1], g2, g3⟩
          · simp at hv
        · simp at hv
      · simp at hv
    · simp at hv
  · simp at hv
end
end Go.Proofs.Ytbnemkdkeaiaoaa
