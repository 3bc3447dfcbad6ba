/- A virtual heap for walks: values that name blocks by numbers of the walk's own, and what it means that they stand for values of the model in a world. No program in sight. -/
import Derived.RangeFuncLeaves
import Derived.OrdersIn
import Derived.LoopNIn
import Derived.Below
import Derived.Laws.Sem
import Derived.Laws.World
import Derived.Laws.Cells
import Derived.Laws.IdiomCopy
import Derived.Laws.Entries
namespace Go.Proofs.Ytbnemkdkeaiaoaa
open Go Go.RowKit
set_option linter.unusedSimpArgs false
set_option linter.unusedVariables false

/-- Values as the walk has them: exact ones; an address of a block that the walk names; a slice over one; a slice (an address) of cells that nobody writes any more; closures; a loop's yield. -/
inductive VV where
  | sc (v : Value)
  | ptr (b o : Nat)
  | sl (b o n : Nat) (c : Option Nat) (z : Nat)
  | gs (b n z : Nat)
  | ro (n : Nat) (vs : List VV)
  | rp (vs : List VV) (o : Nat)
  | fn (f : Fn) (first capt : List VV)
  | yl (l : Nat)
  | ag (vs : List VV)
  | tp (vs : List VV)
  | ifc (t : TypeId) (v : VV)
  | junk
instance : Inhabited VV := ⟨.junk⟩

/-- What a named block holds. -/
inductive VObj where
  | cells (rw : Bool) (vs : List VV)
  | loop (tmps : List VV) (params : List Tmp) (assign body : Code) (st : LoopState) (pend : Option Code) (d : Nat)
  | defs
  | gone
  | opt (vs : List VV)
  | raw (t : TypeId) (vs : List Value) (n : Option Nat)
instance : Inhabited VObj := ⟨.defs⟩

structure Heap where
  objs : List (Nat × VObj)
  next : Nat

def hget : List (Nat × VObj) → Nat → Option VObj
  | [], _ => none
  | (k, o) :: r, b => match Nat.beq k b with
    | true => some o
    | false => hget r b
def hset : List (Nat × VObj) → Nat → VObj → List (Nat × VObj)
  | [], _, _ => []
  | (k, o) :: r, b, x => match Nat.beq k b with
    | true => (k, x) :: r
    | false => (k, o) :: hset r b x
def hdel : List (Nat × VObj) → Nat → List (Nat × VObj)
  | [], _ => []
  | (k, o) :: r, b => match Nat.beq k b with
    | true => hdel r b
    | false => (k, o) :: hdel r b
def Heap.get (H : Heap) (b : Nat) : Option VObj := hget H.objs b
def Heap.set (H : Heap) (b : Nat) (x : VObj) : Heap := ⟨hset H.objs b x, H.next⟩
def Heap.del (H : Heap) (b : Nat) : Heap := ⟨hdel H.objs b, H.next⟩
def Heap.add (H : Heap) (x : VObj) : Heap := ⟨(H.next, x) :: H.objs, H.next + 1⟩

theorem beq_cases (k b : Nat) : (Nat.beq k b = true ∧ k = b) ∨ (Nat.beq k b = false ∧ k ≠ b) := by
  cases h : Nat.beq k b
  · exact .inr ⟨rfl, fun e => by subst e; simp [Nat.beq_refl] at h⟩
  · exact .inl ⟨rfl, Nat.eq_of_beq_eq_true h⟩
theorem hget_cons (k b : Nat) (o : VObj) (r : List (Nat × VObj)) : hget ((k, o) :: r) b = if k = b then some o else hget r b := by
  rcases beq_cases k b with ⟨h, e⟩ | ⟨h, e⟩ <;> simp [hget, h, e]
theorem hget_set : ∀ (l : List (Nat × VObj)) (b c : Nat) (x : VObj), hget (hset l b x) c = if b = c then (if (hget l b).isSome then some x else none) else hget l c
  | [], b, c, x => by simp [hset, hget]
  | (k, o) :: r, b, c, x => by
    rw [hget_cons, hget_cons]
    rcases beq_cases k b with ⟨h, e⟩ | ⟨h, e⟩
    · subst e
      simp only [hset, h, hget_cons]
      by_cases h2 : k = c <;> simp [h2]
    · simp only [hset, h, hget_cons, e, if_false]
      rw [hget_set r b c x]
      by_cases h2 : b = c
      · subst h2; simp [e]
      · simp [h2]
theorem hget_del : ∀ (l : List (Nat × VObj)) (b c : Nat), hget (hdel l b) c = if b = c then none else hget l c
  | [], b, c => by simp [hdel, hget]
  | (k, o) :: r, b, c => by
    rcases beq_cases k b with ⟨h, e⟩ | ⟨h, e⟩
    · subst e
      simp only [hdel, h, hget_cons, hget_del r k c]
      by_cases h2 : k = c <;> simp [h2]
    · simp only [hdel, h, hget_cons, hget_del r b c]
      by_cases h2 : b = c
      · subst h2; simp [e]
      · simp [h2]
theorem Heap.get_add (H : Heap) (x : VObj) (b : Nat) : (H.add x).get b = if H.next = b then some x else H.get b := hget_cons _ _ _ _
theorem Heap.get_set (H : Heap) (b c : Nat) (x : VObj) : (H.set b x).get c = if b = c then (if (H.get b).isSome then some x else none) else H.get c := hget_set _ _ _ _
theorem Heap.get_del (H : Heap) (b c : Nat) : (H.del b).get c = if b = c then none else H.get c := hget_del _ _ _

/-- One by one. -/
def Pw (R : VV → Value → Prop) (vs : List VV) (cs : List Value) : Prop := vs.length = cs.length ∧ ∀ (i : Nat) (u : VV) (c : Value), vs[i]? = some u → cs[i]? = some c → R u c

/-- The first of a row, one by one. -/
def Pre (R : VV → Value → Prop) (vs : List VV) (cs : List Value) : Prop := ∀ (i : Nat) (u : VV), vs[i]? = some u → ∃ c, cs[i]? = some c ∧ R u c

/-- What a value of the walk stands for, in a world: Z: the blocks that nobody writes any more; ρ: where the named blocks lie. -/
inductive VRel (w : World) (Z : Nat → Prop) (ρ : Nat → Option (Nat × Nat)) : VV → Value → Prop
  | sc {v : Value} (h : v.oneCell' = true) : VRel w Z ρ (.sc v) v
  | ptr {b o k N : Nat} (h : ρ b = some (k, N)) : VRel w Z ρ (.ptr b o) (.pointer (some ⟨k, o, none⟩))
  | sl {b o n k N c' z : Nat} {c : Option Nat} (h : ρ b = some (k, N)) (hn : n ≤ c') (hc : ∀ x, c = some x → c' = x) (hz : c = none → o + c' * z ≤ N) : VRel w Z ρ (.sl b o n c z) (.slice (some ⟨k, o, none⟩) n c')
  | gs0 {b z : Nat} {a : Option Addr} : VRel w Z ρ (.gs b 0 z) (.slice a 0 0)
  | gs {b n k N c' z : Nat} (h : ρ b = some (k, N)) (hn : n ≤ c') (hz : c' * z ≤ N) (h0 : n ≠ 0) : VRel w Z ρ (.gs b n z) (.slice (some ⟨k, 0, none⟩) n c')
  | ro {n k o c' : Nat} {vs : List VV} {cs : List Value} (hZ : Z k) (hn : n ≤ c') (hlen : vs.length = cs.length) (hcell : ∀ i, i < cs.length → w.cell? ⟨k, o + i, none⟩ = cs[i]?)
      (hrel : ∀ (i : Nat) (u : VV) (c : Value), vs[i]? = some u → cs[i]? = some c → VRel w Z ρ u c) : VRel w Z ρ (.ro n vs) (.slice (some ⟨k, o, none⟩) n c')
  | ro0 {a : Option Addr} {c' : Nat} : VRel w Z ρ (.ro 0 []) (.slice a 0 c')
  | rp {k o o' : Nat} {vs : List VV} {cs : List Value} (hZ : Z k) (hlen : vs.length = cs.length) (hcell : ∀ i, i < cs.length → w.cell? ⟨k, o + i, none⟩ = cs[i]?)
      (hrel : ∀ (i : Nat) (u : VV) (c : Value), vs[i]? = some u → cs[i]? = some c → VRel w Z ρ u c) : VRel w Z ρ (.rp vs o') (.pointer (some ⟨k, o + o', none⟩))
  | fn {f : Fn} {vs us : List VV} {cs ds : Array Value} (h1 : vs.length = cs.toList.length) (r1 : ∀ (i : Nat) (u : VV) (c : Value), vs[i]? = some u → cs.toList[i]? = some c → VRel w Z ρ u c)
      (h2 : us.length = ds.toList.length) (r2 : ∀ (i : Nat) (u : VV) (c : Value), us[i]? = some u → ds.toList[i]? = some c → VRel w Z ρ u c) : VRel w Z ρ (.fn f vs us) (.func f cs ds)
  | yl {l k N : Nat} (h : ρ l = some (k, N)) : VRel w Z ρ (.yl l) (.func (.yield k) #[] #[])
  | ag {vs : List VV} {cs : Array Value} (h1 : vs.length = cs.toList.length) (r1 : ∀ (i : Nat) (u : VV) (c : Value), vs[i]? = some u → cs.toList[i]? = some c → VRel w Z ρ u c) : VRel w Z ρ (.ag vs) (.agg cs)
  | tp {vs : List VV} {cs : Array Value} (h1 : vs.length = cs.toList.length) (r1 : ∀ (i : Nat) (u : VV) (c : Value), vs[i]? = some u → cs.toList[i]? = some c → VRel w Z ρ u c) : VRel w Z ρ (.tp vs) (.tuple cs)
  | ifc {t : TypeId} {v : VV} {x : Value} (h : VRel w Z ρ v x) : VRel w Z ρ (.ifc t v) (.iface t x)
  | junk {x : Value} : VRel w Z ρ .junk x

/-- What may be frozen: new blocks, and those that one may write. -/
def own (B : World) (M : Nat → Prop) (k : Nat) : Prop := B.heap.size ≤ k ∨ M k
/-- The world has gone on: what nobody writes has stayed, names have stayed. -/
structure Ext (X : Nat → Prop) (n : Nat) (Z : Nat → Prop) (ρ : Nat → Option (Nat × Nat)) (w : World) (n' : Nat) (Z' : Nat → Prop) (ρ' : Nat → Option (Nat × Nat)) (w' : World) : Prop where
  nle : n ≤ n'
  rold : ∀ b, b < n → ρ' b = ρ b
  zsub : ∀ k, Z k → Z' k
  rsub : ∀ b k, ρ b = some k → ρ' b = some k
  keep : ∀ k, Z k → w'.heap[k]? = w.heap[k]?
  size : w.heap.size ≤ w'.heap.size
  znew : ∀ k, Z' k → Z k ∨ w.heap.size ≤ k ∨ X k
theorem Ext.refl {X : Nat → Prop} (n : Nat) (Z : Nat → Prop) (ρ : Nat → Option (Nat × Nat)) (w : World) : Ext X n Z ρ w n Z ρ w := ⟨Nat.le_refl _, fun _ _ => rfl, fun _ h => h, fun _ _ h => h, fun _ _ => rfl, Nat.le_refl _, fun _ h => .inl h⟩
section
variable {X : Nat → Prop} {w w' w'' : World} {Z Z' Z'' : Nat → Prop} {ρ ρ' ρ'' : Nat → Option (Nat × Nat)}
theorem Ext.trans {n n' n'' : Nat} (h : Ext X n Z ρ w n' Z' ρ' w') (g : Ext X n' Z' ρ' w' n'' Z'' ρ'' w'') : Ext X n Z ρ w n'' Z'' ρ'' w'' :=
  ⟨Nat.le_trans h.nle g.nle, fun b hb => (g.rold b (Nat.lt_of_lt_of_le hb h.nle)).trans (h.rold b hb), fun k hk => g.zsub k (h.zsub k hk), fun b k hk => g.rsub b k (h.rsub b k hk), fun k hk => (g.keep k (h.zsub k hk)).trans (h.keep k hk), Nat.le_trans h.size g.size, fun k hk => (g.znew k hk).elim (h.znew k) (fun q => .inr (q.imp (Nat.le_trans h.size) id))⟩
theorem cell_of_heap {k o : Nat} (h : w'.heap[k]? = w.heap[k]?) : w'.cell? ⟨k, o, none⟩ = w.cell? ⟨k, o, none⟩ := by
  simp only [World.cell?, h]
theorem VRel.ext {n n' : Nat} {v : VV} {x : Value} (h : VRel w Z ρ v x) (e : Ext X n Z ρ w n' Z' ρ' w') : VRel w' Z' ρ' v x := by
  induction h with
  | sc h => exact .sc h
  | ptr h => exact .ptr (e.rsub _ _ h)
  | sl h hn hc hz => exact .sl (e.rsub _ _ h) hn hc hz
  | gs0 => exact .gs0
  | gs h hn hz h0 => exact .gs (e.rsub _ _ h) hn hz h0
  | ro hZ hn hlen hcell _ ih => exact .ro (e.zsub _ hZ) hn hlen (fun i hi => (cell_of_heap (e.keep _ hZ)).trans (hcell i hi)) ih
  | ro0 => exact .ro0
  | rp hZ hlen hcell _ ih => exact .rp (e.zsub _ hZ) hlen (fun i hi => (cell_of_heap (e.keep _ hZ)).trans (hcell i hi)) ih
  | fn h1 _ h2 _ i1 i2 => exact .fn h1 i1 h2 i2
  | yl h => exact .yl (e.rsub _ _ h)
  | ag h1 _ ih => exact .ag h1 ih
  | tp h1 _ ih => exact .tp h1 ih
  | ifc _ ih => exact .ifc ih
  | junk => exact .junk
theorem Pw.mono {R R' : VV → Value → Prop} {vs : List VV} {cs : List Value} (h : Pw R vs cs) (hr : ∀ u c, R u c → R' u c) : Pw R' vs cs := ⟨h.1, fun i u c a b => hr u c (h.2 i u c a b)⟩
theorem Pw.nil {R : VV → Value → Prop} : Pw R [] [] := ⟨rfl, fun i u c h => by simp at h⟩
theorem Pw.cons {R : VV → Value → Prop} {v : VV} {x : Value} {vs : List VV} {cs : List Value} (h : R v x) (t : Pw R vs cs) : Pw R (v :: vs) (x :: cs) := by
  refine ⟨by simp [t.1], fun i u c hu hc => ?_⟩
  cases i with
  | zero => simp at hu hc; subst hu hc; exact h
  | succ i => simp at hu hc; exact t.2 i u c hu hc
theorem Pw.append {R : VV → Value → Prop} {vs us : List VV} {cs ds : List Value} (h : Pw R vs cs) (t : Pw R us ds) : Pw R (vs ++ us) (cs ++ ds) := by
  refine ⟨by simp [h.1, t.1], fun i u c hu hc => ?_⟩
  by_cases hi : i < vs.length
  · rw [List.getElem?_append_left hi] at hu
    rw [List.getElem?_append_left (by have := h.1; omega)] at hc
    exact h.2 i u c hu hc
  · rw [List.getElem?_append_right (by omega)] at hu
    rw [List.getElem?_append_right (by have := h.1; omega), ← h.1] at hc
    exact t.2 _ u c hu hc
theorem Pw.set {R : VV → Value → Prop} {vs : List VV} {cs : List Value} (h : Pw R vs cs) (i : Nat) {v : VV} {x : Value} (hv : R v x) : Pw R (vs.set i v) (cs.set i x) := by
  refine ⟨by simp [h.1], fun j u c hu hc => ?_⟩
  have hl := h.1
  by_cases e : i = j
  · subst e
    have hi : i < vs.length := by
      have := (List.getElem?_eq_some_iff.1 hu).1
      simpa using this
    rw [List.getElem?_set_self hi] at hu
    rw [List.getElem?_set_self (by omega)] at hc
    injection hu with hu; injection hc with hc
    subst hu hc
    exact hv
  · rw [List.getElem?_set_ne e] at hu hc
    exact h.2 j u c hu hc
theorem Pw.drop {R : VV → Value → Prop} {vs : List VV} {cs : List Value} (h : Pw R vs cs) (n : Nat) : Pw R (vs.drop n) (cs.drop n) :=
  ⟨by simp [h.1], fun i u c hu hc => h.2 (n + i) u c (by rw [← hu, List.getElem?_drop]) (by rw [← hc, List.getElem?_drop])⟩
theorem Pw.take {R : VV → Value → Prop} {vs : List VV} {cs : List Value} (h : Pw R vs cs) (n : Nat) : Pw R (vs.take n) (cs.take n) := by
  refine ⟨by simp [h.1], fun i u c hu hc => ?_⟩
  have hi : i < n := by
    have := (List.getElem?_eq_some_iff.1 hu).1
    simp at this; omega
  rw [List.getElem?_take_of_lt hi] at hu hc
  exact h.2 i u c hu hc
theorem Pw.get {R : VV → Value → Prop} {vs : List VV} {cs : List Value} (h : Pw R vs cs) {i : Nat} {u : VV} (hu : vs[i]? = some u) : ∃ c, cs[i]? = some c ∧ R u c := by
  have hi := (List.getElem?_eq_some_iff.1 hu).1
  have hc : cs[i]? = some (cs[i]'(by have := h.1; omega)) := List.getElem?_eq_getElem _
  exact ⟨_, hc, h.2 i _ _ hu hc⟩
theorem Pw.replicate {R : VV → Value → Prop} {v : VV} {x : Value} (h : R v x) (n : Nat) : Pw R (List.replicate n v) (List.replicate n x) := by
  refine ⟨by simp, fun i u c hu hc => ?_⟩
  have h1 := List.getElem?_eq_some_iff.1 hu
  have h2 := List.getElem?_eq_some_iff.1 hc
  obtain ⟨_, h1⟩ := h1
  obtain ⟨_, h2⟩ := h2
  simp at h1 h2
  subst h1 h2
  exact h
theorem VRel.ag' {vs : List VV} {cs : Array Value} (h : Pw (VRel w Z ρ) vs cs.toList) : VRel w Z ρ (.ag vs) (.agg cs) := .ag h.1 h.2
theorem VRel.tp' {vs : List VV} {cs : Array Value} (h : Pw (VRel w Z ρ) vs cs.toList) : VRel w Z ρ (.tp vs) (.tuple cs) := .tp h.1 h.2
theorem VRel.undef : VRel w Z ρ (.tp []) Go.undef := .tp' Pw.nil

/-- What a named block's object is. -/
def ORel (w : World) (Z : Nat → Prop) (ρ : Nat → Option (Nat × Nat)) (N : Nat) : VObj → Obj → Prop
  | .cells _ vs, o => ∃ cs t fr, o = .cells cs t fr ∧ cs.size = N ∧ Pre (VRel w Z ρ) vs cs.toList ∧ (fr.1 = fr.2 ∨ fr = (N, N + 1))
  | .loop tmps ps asg bd st pe d, o => ∃ fn ts D, o = .loop { state := st, pending := pe, fn := fn, tmps := ts, params := ps.toArray, assign := asg, body := bd, defers := D } ∧ Pw (VRel w Z ρ) tmps ts.toList ∧ ∃ N', ρ d = some (D, N')
  | .defs, o => o = .deferred (some [])
  | .gone, _ => True
  | .opt vs, o => ∃ cs t fr, o = .cells cs t fr ∧ cs.size = N ∧ Pre (VRel w Z ρ) vs cs.toList ∧ (fr.1 = fr.2 ∨ fr = (N, N + 1))
  | .raw t vs n, o => ∃ rest, o = .cells (vs ++ rest).toArray t (0, 0) ∧ (vs ++ rest).length = N ∧ ∀ m, n = some m → N = m
theorem ORel.ext {n n' N : Nat} {x : VObj} {o : Obj} (h : ORel w Z ρ N x o) (e : Ext X n Z ρ w n' Z' ρ' w') : ORel w' Z' ρ' N x o := by
  cases x with
  | cells rw vs =>
    obtain ⟨cs, t, fr, h0, h4, h2, h3⟩ := h
    exact ⟨cs, t, fr, h0, h4, fun i u hu => let ⟨c, hc, hr⟩ := h2 i u hu; ⟨c, hc, hr.ext e⟩, h3⟩
  | loop tmps ps asg bd st pe d =>
    obtain ⟨fn, ts, D, h0, h1, N', h2⟩ := h
    exact ⟨fn, ts, D, h0, h1.mono fun _ _ h => h.ext e, N', e.rsub _ _ h2⟩
  | defs => exact h
  | gone => trivial
  | raw t vs n => exact h
  | opt vs =>
    obtain ⟨cs, t, fr, h0, h4, h2, h3⟩ := h
    exact ⟨cs, t, fr, h0, h4, fun i u hu => let ⟨c, hc, hr⟩ := h2 i u hu; ⟨c, hc, hr.ext e⟩, h3⟩
/-- A block that needn't be there. -/
def VObj.ghost : VObj → Bool
  | .opt [] => true
  | _ => false
def VObj.rw : VObj → Bool
  | .cells r _ => r
  | _ => true

/-- The tables that the program's code reads. -/
def Tabs (w : World) : Prop := True
/-- Whatever world goes on from B, but for the blocks M, has the tables. -/
def Glob (B : World) (M : Nat → Prop) : Prop := ∀ w' : World, w'.os = B.os → w'.tape = B.tape → w'.output = B.output → B.heap.size ≤ w'.heap.size → (∀ k, k < B.heap.size → ¬ M k → w'.heap[k]? = B.heap[k]?) → Tabs w'
/-- The heap of the walk stands for the world: B: the world where the activation began; M: old blocks that it may write. -/
structure Rel (B : World) (M : Nat → Prop) (Z : Nat → Prop) (ρ : Nat → Option (Nat × Nat)) (H : Heap) (w : World) : Prop where
  glob : Glob B M
  os : w.os = B.os
  tape : w.tape = B.tape
  output : w.output = B.output
  size : B.heap.size ≤ w.heap.size
  frame : ∀ k, k < B.heap.size → ¬ M k → w.heap[k]? = B.heap[k]?
  dom : ∀ b, H.next ≤ b → ρ b = none
  live : ∀ b x, H.get b = some x → b < H.next
  inj : ∀ b b' k N N' x x', H.get b = some x → H.get b' = some x' → ρ b = some (k, N) → ρ b' = some (k, N') → b = b'
  obj : ∀ b x, H.get b = some x → (x.ghost = true ∧ ρ b = none) ∨ ∃ k N o, ρ b = some (k, N) ∧ w.heap[k]? = some o ∧ ORel w Z ρ N x o ∧ ¬ Z k ∧ (x.rw = true → B.heap.size ≤ k ∨ M k)
  zlt : ∀ k, Z k → k < w.heap.size
section
variable {B : World} {M : Nat → Prop} {H : Heap}
theorem Rel.objK (h : Rel B M Z ρ H w) {b : Nat} {x : VObj} (hx : H.get b = some x) {k N : Nat} (hk : ρ b = some (k, N)) : ∃ k N o, ρ b = some (k, N) ∧ w.heap[k]? = some o ∧ ORel w Z ρ N x o ∧ ¬ Z k ∧ (x.rw = true → B.heap.size ≤ k ∨ M k) := by
  rcases h.obj b x hx with ⟨_, g⟩ | g
  · rw [g] at hk; cases hk
  · exact g
theorem Rel.objC (h : Rel B M Z ρ H w) {b : Nat} {x : VObj} (hx : H.get b = some x) (hg : x.ghost = false) : ∃ k N o, ρ b = some (k, N) ∧ w.heap[k]? = some o ∧ ORel w Z ρ N x o ∧ ¬ Z k ∧ (x.rw = true → B.heap.size ≤ k ∨ M k) := by
  rcases h.obj b x hx with ⟨g, _⟩ | g
  · rw [g] at hg; cases hg
  · exact g
theorem Rel.lt (h : Rel B M Z ρ H w) {b : Nat} {x : VObj} (hx : H.get b = some x) {k N : Nat} (hk : ρ b = some (k, N)) : k < w.heap.size := by
  obtain ⟨k', N', o, h1, h2, _⟩ := h.objK hx hk
  rw [hk] at h1; injection h1 with h1; injection h1 with h1 h1'; subst h1 h1'
  exact (Array.getElem?_eq_some_iff.1 h2).1
theorem Rel.drew (h : Rel B M Z ρ H w) : Rel B M Z ρ H w.drew := by
  refine ⟨h.glob, h.os, h.tape, h.output, h.size, h.frame, h.dom, h.live, h.inj, ?_, h.zlt⟩
  intro b x hx
  rcases h.obj b x hx with hg | ⟨k, N, o, h1, h2, h3, h4⟩
  · exact .inl hg
  exact .inr ⟨k, N, o, h1, h2, h3.ext (X := fun _ => False) (n := 0) (n' := 0) ⟨Nat.le_refl _, fun _ _ => rfl, fun _ h => h, fun _ _ h => h, fun _ _ => rfl, Nat.le_refl _, fun _ h => .inl h⟩, h4⟩
theorem Ext.drew {n : Nat} : Ext X n Z ρ w n Z ρ w.drew := ⟨Nat.le_refl _, fun _ _ => rfl, fun _ h => h, fun _ _ h => h, fun _ _ => rfl, Nat.le_refl _, fun _ h => .inl h⟩
def upd (ρ : Nat → Option (Nat × Nat)) (b : Nat) (k : Nat × Nat) : Nat → Option (Nat × Nat) := fun x => if x = b then some k else ρ x
theorem upd_self (b : Nat) (k : Nat × Nat) : upd ρ b k b = some k := by simp [upd]
theorem Rel.upd_ext (h : Rel B M Z ρ H w) (k : Nat × Nat) (b : Nat) (c : Nat × Nat) (hb : ρ b = some c) : upd ρ H.next k b = some c := by
  unfold upd
  split
  · rename_i e; subst e; rw [h.dom _ (Nat.le_refl _)] at hb; cases hb
  · exact hb
theorem heap_alloc_lt (w : World) (o : Obj) (k : Nat) (h : k < w.heap.size) : (w.alloc o).heap[k]? = w.heap[k]? := Below.heap_alloc w o k h
theorem heap_alloc_new' (w : World) (o : Obj) : (w.alloc o).heap[w.heap.size]? = some o := by
  show (w.heap.push o)[w.heap.size]? = _
  simp
/-- The world goes on by calls that leave the named blocks alone. -/
theorem Rel.step (h : Rel B M Z ρ H w) (ho : w'.os = w.os) (ht : w'.tape = w.tape) (hp : w'.output = w.output) (hs : w.heap.size ≤ w'.heap.size) (hk : ∀ k, k < w.heap.size → w'.heap[k]? = w.heap[k]?)
    (hz : ∀ k, Z k → Z' k) (hz2 : ∀ k, Z' k → Z k ∨ (w.heap.size ≤ k ∧ k < w'.heap.size)) : Ext (own B M) H.next Z ρ w H.next Z' ρ w' ∧ Rel B M Z' ρ H w' := by
  have e : Ext (own B M) H.next Z ρ w H.next Z' ρ w' := ⟨Nat.le_refl _, fun _ _ => rfl, hz, fun _ _ h => h, fun k hkz => hk k (h.zlt k hkz), hs, fun k hk => (hz2 k hk).imp id fun q => .inl q.1⟩
  refine ⟨e, h.glob, ho.trans h.os, ht.trans h.tape, hp.trans h.output, Nat.le_trans h.size hs, ?_, h.dom, h.live, h.inj, ?_, ?_⟩
  · intro k hkb hM
    have := h.size
    rw [hk k (by omega)]; exact h.frame k hkb hM
  · intro b x hx
    rcases h.obj b x hx with hg | ⟨k, N, o, h1, h2, h3, h4, h5⟩
    · exact .inl hg
    have hl := h.lt hx h1
    refine .inr ⟨k, N, o, h1, (hk k hl).trans h2, h3.ext e, fun hZ => ?_, h5⟩
    rcases hz2 k hZ with hZ | hZ
    · exact h4 hZ
    · omega
  · intro k hkz
    rcases hz2 k hkz with hZ | hZ
    · have := h.zlt k hZ; omega
    · exact hZ.2
/-- A new block. -/
theorem Rel.alloc (h : Rel B M Z ρ H w) (x : VObj) (o : Obj) (N : Nat) (hr : ORel w Z ρ N x o) :
    Ext (own B M) H.next Z ρ w (H.add x).next Z (upd ρ H.next (w.heap.size, N)) (w.alloc o) ∧ Rel B M Z (upd ρ H.next (w.heap.size, N)) (H.add x) (w.alloc o) := by
  have e : Ext (own B M) H.next Z ρ w (H.add x).next Z (upd ρ H.next (w.heap.size, N)) (w.alloc o) := ⟨Nat.le_succ _, fun b hb => by unfold upd; rw [if_neg (by omega)], fun _ h => h, fun b k hb => h.upd_ext _ b k hb, fun k hk => heap_alloc_lt w o k (h.zlt k hk), by simp, fun _ h => .inl h⟩
  refine ⟨e, h.glob, h.os, h.tape, h.output, ?_, ?_, ?_, ?_, ?_, ?_, ?_⟩
  · have := h.size; simp; omega
  · intro k hk hM
    have := h.size
    rw [heap_alloc_lt w o k (by omega)]; exact h.frame k hk hM
  · intro b hb
    simp only [Heap.add] at hb
    unfold upd
    rw [if_neg (by omega)]
    exact h.dom b (by omega)
  · intro b y hy
    rw [Heap.get_add] at hy
    simp only [Heap.add]
    split at hy
    · omega
    · have := h.live b y hy; omega
  · intro b b' k N1 N2 y y' hy hy' hb hb'
    rw [Heap.get_add] at hy hy'
    unfold upd at hb hb'
    by_cases e1 : H.next = b
    · by_cases e2 : H.next = b'
      · omega
      · rw [if_neg e2] at hy'
        rw [if_neg (by omega)] at hb'
        rw [if_pos e1.symm] at hb
        injection hb with hb; injection hb with hb hb2
        have := h.lt hy' hb'
        omega
    · rw [if_neg e1] at hy
      rw [if_neg (by omega)] at hb
      by_cases e2 : H.next = b'
      · rw [if_pos e2.symm] at hb'
        injection hb' with hb'; injection hb' with hb' hb2
        have := h.lt hy hb
        omega
      · rw [if_neg e2] at hy'
        rw [if_neg (by omega)] at hb'
        exact h.inj b b' k N1 N2 y y' hy hy' hb hb'
  · intro b y hy
    rw [Heap.get_add] at hy
    by_cases e1 : H.next = b
    · subst e1
      rw [if_pos rfl] at hy
      injection hy with hy
      subst hy
      refine .inr ⟨w.heap.size, N, o, upd_self _ _, heap_alloc_new' w o, hr.ext e, fun hZ => ?_, fun _ => .inl h.size⟩
      have := h.zlt _ hZ; omega
    · rw [if_neg e1] at hy
      rcases h.obj b y hy with ⟨hg, hg2⟩ | ⟨k, N', o', h1, h2, h3, h4, h5⟩
      · exact .inl ⟨hg, by unfold upd; rw [if_neg (fun e => e1 e.symm)]; exact hg2⟩
      exact .inr ⟨k, N', o', h.upd_ext _ b _ h1, (heap_alloc_lt w o k (h.lt hy h1)).trans h2, h3.ext e, h4, h5⟩
  · intro k hk
    have := h.zlt k hk
    simp; omega
/-- A named block is turned. -/
theorem Rel.turn (h : Rel B M Z ρ H w) {b k N : Nat} {x y : VObj} {o : Obj} (hx : H.get b = some x) (hk : ρ b = some (k, N)) (hrw : x.rw = true) (hy : y.rw = true)
    (ho : w'.os = w.os) (ht : w'.tape = w.tape) (hp : w'.output = w.output) (hs : w'.heap.size = w.heap.size) (hne : ∀ j, j ≠ k → w'.heap[j]? = w.heap[j]?) (hat : w'.heap[k]? = some o)
    (hr : ORel w' Z ρ N y o) : Ext (own B M) H.next Z ρ w (H.set b y).next Z ρ w' ∧ Rel B M Z ρ (H.set b y) w' := by
  obtain ⟨k', N', o', h1, h2, h3, h4, h5⟩ := h.objK hx hk
  rw [hk] at h1; injection h1 with h1; injection h1 with h1 h1'; subst h1 h1'
  have e : Ext (own B M) H.next Z ρ w (H.set b y).next Z ρ w' := ⟨Nat.le_refl _, fun _ _ => rfl, fun _ h => h, fun _ _ h => h, fun j hj => hne j (fun e => h4 (e ▸ hj)), by omega, fun _ h => .inl h⟩
  have hsome : (H.get b).isSome = true := by rw [hx]; rfl
  refine ⟨e, h.glob, ho.trans h.os, ht.trans h.tape, hp.trans h.output, by rw [hs]; exact h.size, ?_, h.dom, ?_, ?_, ?_, fun j hj => by rw [hs]; exact h.zlt j hj⟩
  · intro j hj hM
    rw [hne j (fun e => ?_)]
    · exact h.frame j hj hM
    · subst e
      rcases h5 hrw with h6 | h6
      · omega
      · exact hM h6
  · intro c z hz
    rw [Heap.get_set] at hz
    show c < H.next
    split at hz
    · rename_i e; subst e; exact h.live _ _ hx
    · exact h.live c z hz
  · intro c c' j N1 N2 z z' hz hz' hc hc'
    rw [Heap.get_set] at hz hz'
    have g1 : ∃ q, H.get c = some q := by
      split at hz
      · rename_i e; subst e; exact ⟨x, hx⟩
      · exact ⟨z, hz⟩
    have g2 : ∃ q, H.get c' = some q := by
      split at hz'
      · rename_i e; subst e; exact ⟨x, hx⟩
      · exact ⟨z', hz'⟩
    obtain ⟨q, g1⟩ := g1
    obtain ⟨q', g2⟩ := g2
    exact h.inj c c' j _ _ q q' g1 g2 hc hc'
  · intro c z hz
    rw [Heap.get_set] at hz
    by_cases e1 : b = c
    · subst e1
      rw [if_pos rfl, if_pos hsome] at hz
      injection hz with hz
      subst hz
      exact .inr ⟨k, N, o, hk, hat, hr, h4, fun _ => h5 hrw⟩
    · rw [if_neg e1] at hz
      rcases h.obj c z hz with hg | ⟨j, N', o'', g1, g2, g3, g4, g5⟩
      · exact .inl hg
      have hjk : j ≠ k := fun e2 => e1 (h.inj b c k N N' x z hx hz hk (e2 ▸ g1))
      exact .inr ⟨j, N', o'', g1, (hne j hjk).trans g2, g3.ext e, g4, g5⟩
/-- A named block is forgotten. -/
theorem Rel.del (h : Rel B M Z ρ H w) (b : Nat) : Rel B M Z ρ (H.del b) w := by
  refine ⟨h.glob, h.os, h.tape, h.output, h.size, h.frame, h.dom, ?_, ?_, ?_, h.zlt⟩
  · intro c x hx
    rw [Heap.get_del] at hx
    split at hx
    · cases hx
    · exact h.live c x hx
  · intro c c' k N1 N2 x x' hx hx'
    rw [Heap.get_del] at hx hx'
    split at hx
    · cases hx
    · split at hx'
      · cases hx'
      · exact h.inj c c' k N1 N2 x x' hx hx'
  · intro c x hx
    rw [Heap.get_del] at hx
    split at hx
    · cases hx
    · exact h.obj c x hx
/-- A named block gets a new name, and holds what is said of it anew. -/
theorem Rel.rename (h : Rel B M Z ρ H w) {b k N : Nat} {x y : VObj} (hx : H.get b = some x) (hk : ρ b = some (k, N)) (hrw : x.rw = true)
    (ho : w'.os = w.os) (ht : w'.tape = w.tape) (hp : w'.output = w.output) (hs : w'.heap.size = w.heap.size) (hne : ∀ j, j ≠ k → w'.heap[j]? = w.heap[j]?) {o : Obj} (hat : w'.heap[k]? = some o) (hy : y.rw = true)
    (hr : ORel w' Z ρ N y o) : Ext (own B M) H.next Z ρ w ((H.del b).add y).next Z (upd ρ H.next (k, N)) w' ∧ Rel B M Z (upd ρ H.next (k, N)) ((H.del b).add y) w' := by
  obtain ⟨e, h1⟩ := h.turn hx hk hrw hy ho ht hp hs hne hat hr
  have hg : (H.set b y).get b = some y := by rw [Heap.get_set, if_pos rfl, hx]; rfl
  have e2 : Ext (own B M) (H.set b y).next Z ρ w' ((H.del b).add y).next Z (upd ρ H.next (k, N)) w' := ⟨Nat.le_succ _, fun c hc => by have hc : c < H.next := hc; unfold upd; rw [if_neg (by omega)], fun _ h => h, fun c j hb => h.upd_ext _ c j hb, fun _ _ => rfl, Nat.le_refl _, fun _ h => .inl h⟩
  have hbn := h.live b x hx
  have hdel : ∀ c z, (H.del b).get c = some z → c ≠ b ∧ H.get c = some z ∧ (H.set b y).get c = some z := by
    intro c z hz
    rw [Heap.get_del] at hz
    split at hz
    · cases hz
    · rename_i hne; exact ⟨fun e => hne e.symm, hz, by rw [Heap.get_set, if_neg hne]; exact hz⟩
  have ga : ∀ c, ((H.del b).add y).get c = if H.next = c then some y else (H.del b).get c := fun c => Heap.get_add _ _ _
  refine ⟨e.trans e2, h1.glob, h1.os, h1.tape, h1.output, h1.size, h1.frame, ?_, ?_, ?_, ?_, h1.zlt⟩
  · intro c hc
    simp only [Heap.add, Heap.del] at hc
    unfold upd
    rw [if_neg (by omega)]
    exact h.dom c (by omega)
  · intro c z hz
    rw [ga] at hz
    show c < H.next + 1
    split at hz
    · omega
    · have := h.live c z (hdel c z hz).2.1; omega
  · intro c c' j N1 N2 z z' hz hz' hc hc'
    rw [ga] at hz hz'
    unfold upd at hc hc'
    by_cases e1 : H.next = c
    · by_cases e3 : H.next = c'
      · omega
      · rw [if_neg e3] at hz'
        rw [if_neg (by omega)] at hc'
        rw [if_pos e1.symm] at hc
        injection hc with hc; injection hc with hc hc2
        subst hc
        exact absurd (h.inj c' b k N2 N z' x (hdel _ _ hz').2.1 hx hc' hk) (hdel _ _ hz').1
    · rw [if_neg e1] at hz
      rw [if_neg (by omega)] at hc
      by_cases e3 : H.next = c'
      · rw [if_pos e3.symm] at hc'
        injection hc' with hc'; injection hc' with hc' hc2
        subst hc'
        exact absurd (h.inj c b k N1 N z x (hdel _ _ hz).2.1 hx hc hk) (hdel _ _ hz).1
      · rw [if_neg e3] at hz'
        rw [if_neg (by omega)] at hc'
        exact h.inj c c' j N1 N2 z z' (hdel _ _ hz).2.1 (hdel _ _ hz').2.1 hc hc'
  · intro c z hz
    rw [ga] at hz
    by_cases e1 : H.next = c
    · subst e1
      rw [if_pos rfl] at hz
      injection hz with hz
      subst hz
      obtain ⟨k', N', o', g1, g2, g3, g4, g5⟩ := h1.objK hg hk
      rw [hk] at g1; injection g1 with g1; injection g1 with g1 g1'; subst g1 g1'
      exact .inr ⟨k, N, o', upd_self _ _, g2, g3.ext e2, g4, g5⟩
    · rw [if_neg e1] at hz
      rcases h1.obj c z (hdel c z hz).2.2 with ⟨hg, hg2⟩ | ⟨j, N', o', g1, g2, g3, g4, g5⟩
      · exact .inl ⟨hg, by unfold upd; rw [if_neg (fun e => e1 e.symm)]; exact hg2⟩
      exact .inr ⟨j, N', o', h.upd_ext _ c _ g1, g2, g3.ext e2, g4, g5⟩
/-- The heap may be any that says no more. -/
theorem Rel.weaken (h : Rel B M Z ρ H w) {H' : Heap} (hn : H'.next = H.next) (hg : ∀ b x, H'.get b = some x → H.get b = some x) : Rel B M Z ρ H' w := by
  refine ⟨h.glob, h.os, h.tape, h.output, h.size, h.frame, fun b hb => h.dom b (hn ▸ hb), fun b x hx => hn ▸ h.live b x (hg b x hx), fun c c' k N1 N2 x x' hx hx' => h.inj c c' k N1 N2 x x' (hg _ _ hx) (hg _ _ hx'), fun b x hx => h.obj b x (hg b x hx), h.zlt⟩
/-- A block is taken as one that needn't be there; and back. -/
theorem Rel.toOpt (h : Rel B M Z ρ H w) {b : Nat} {vs : List VV} (hb : H.get b = some (.cells true vs)) : Rel B M Z ρ (H.set b (.opt vs)) w := by
  obtain ⟨k, N, o, h1, h2, h3, h4, h5⟩ := h.objC hb rfl
  exact (h.turn hb h1 rfl rfl rfl rfl rfl rfl (fun _ _ => rfl) h2 (y := .opt vs) h3).2
theorem Rel.toCells (h : Rel B M Z ρ H w) {b k N : Nat} {vs : List VV} (hb : H.get b = some (.opt vs)) (hk : ρ b = some (k, N)) : Rel B M Z ρ (H.set b (.cells true vs)) w := by
  obtain ⟨k', N', o, h1, h2, h3, h4, h5⟩ := h.objK hb hk
  exact (h.turn hb h1 rfl rfl rfl rfl rfl rfl (fun _ _ => rfl) h2 (y := .cells true vs) h3).2
/-- A block that isn't there. -/
theorem Rel.addGhost (h : Rel B M Z ρ H w) : Rel B M Z ρ (H.add (.opt [])) w := by
  refine ⟨h.glob, h.os, h.tape, h.output, h.size, h.frame, fun b hb => h.dom b (Nat.le_of_succ_le hb), ?_, ?_, ?_, h.zlt⟩
  · intro b x hx
    rw [Heap.get_add] at hx
    show b < H.next + 1
    split at hx
    · omega
    · have := h.live b x hx; omega
  · intro b b' k N N' x x' hx hx' hb hb'
    rw [Heap.get_add] at hx hx'
    have h0 := h.dom H.next (Nat.le_refl _)
    split at hx
    · rename_i e; subst e; rw [h0] at hb; cases hb
    · split at hx'
      · rename_i e; subst e; rw [h0] at hb'; cases hb'
      · exact h.inj b b' k N N' x x' hx hx' hb hb'
  · intro b x hx
    rw [Heap.get_add] at hx
    split at hx
    · rename_i e
      injection hx with hx
      subst e hx
      exact .inl ⟨rfl, h.dom _ (Nat.le_refl _)⟩
    · exact h.obj b x hx
/-- A block gets a new name. -/
theorem Rel.reopt (h : Rel B M Z ρ H w) {b k N : Nat} {vs : List VV} (hb : H.get b = some (.opt vs)) (hk : ρ b = some (k, N)) : Ext (own B M) H.next Z ρ w ((H.del b).add (.opt vs)).next Z (upd ρ H.next (k, N)) w ∧ Rel B M Z (upd ρ H.next (k, N)) ((H.del b).add (.opt vs)) w := by
  obtain ⟨k', N', o, h1, h2, h3, h4, h5⟩ := h.objK hb hk
  rw [hk] at h1; injection h1 with h1; injection h1 with h1 h1'; subst h1 h1'
  exact h.rename hb hk rfl rfl rfl rfl rfl (fun _ _ => rfl) h2 rfl (y := .opt vs) h3
theorem Rel.tabs (h : Rel B M Z ρ H w) : Tabs w := h.glob w h.os h.tape h.output h.size h.frame
theorem Rel.globApart (h : Rel B M Z ρ H w) : Glob w (fun _ => False) := fun w' a b c d e =>
  h.glob w' (a.trans h.os) (b.trans h.tape) (c.trans h.output) (Nat.le_trans h.size d) fun k hk hM => (e k (Nat.lt_of_lt_of_le hk h.size) id).trans (h.frame k hk hM)
theorem Rel.below (h : Rel B (fun _ => False) Z ρ H w) : Below B.heap.size B w := ⟨h.os, h.tape, h.output, h.size, fun k hk => h.frame k hk (fun x => x)⟩
end
end
end Go.Proofs.Ytbnemkdkeaiaoaa
