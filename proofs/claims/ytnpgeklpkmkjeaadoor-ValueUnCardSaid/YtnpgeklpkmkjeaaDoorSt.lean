/- A symbolic heap for walks: 'St w0 M L w': the world w has the blocks that L lists, each known whole; below the start's size nothing has changed but the blocks that M names. Laws for the operations that change memory; no program in sight. -/
import Derived.Deep.MidRow
import Derived.WalkKit
import Derived.WalkSpells
import Derived.WalkLawsBesides
namespace Go.Proofs.YtnpgeklpkmkjeaaDoor
open Go.RowKit
set_option linter.unusedSimpArgs false
set_option linter.unusedVariables false

/-- A block that is known whole: its number, its cells, its element type. -/
structure Blk where
  b : Nat
  cs : List Value
  t : TypeId

def At (w : World) (e : Blk) : Prop := w.heap[e.b]? = some (.cells e.cs.toArray e.t (0, 0))

theorem At.cell {w : World} {b : Nat} {cs : List Value} {t : TypeId} (h : At w ⟨b, cs, t⟩) (o : Nat) : w.cell? ⟨b, o, none⟩ = cs[o]? := by
  unfold At at h; simp only at h; unfold World.cell?; simp [h]
theorem At.frozen {w : World} {b : Nat} {cs : List Value} {t : TypeId} (h : At w ⟨b, cs, t⟩) (o : Nat) : w.frozen? ⟨b, o, none⟩ = false := by
  unfold At at h; simp only at h; unfold World.frozen?; simp [h]
theorem At.lt {w : World} {e : Blk} (h : At w e) : e.b < w.heap.size := by
  unfold At at h
  exact (Array.getElem?_eq_some_iff.1 h).1
theorem At.below {w w' : World} {e : Blk} {B : Nat} (h : At w e) (hb : Below B w w') (hB : e.b < B) : At w' e := by
  unfold At at *; rw [hb.block _ hB]; exact h
theorem At.same {w w' : World} {e : Blk} (h : At w e) (hk : w'.heap[e.b]? = w.heap[e.b]?) : At w' e := by
  unfold At at *; rw [hk]; exact h

def Facts : List Blk → World → Prop
  | [], _ => True
  | e :: L, w => (∀ o, w.cell? ⟨e.b, o, none⟩ = e.cs[o]?) ∧ (∀ o, w.frozen? ⟨e.b, o, none⟩ = false) ∧ Facts L w

structure St (w0 : World) (M : List Nat) (L : List Blk) (w : World) : Prop where
  os : w.os = w0.os
  tape : w.tape = w0.tape
  output : w.output = w0.output
  size : w0.heap.size ≤ w.heap.size
  frame : ∀ k, k < w0.heap.size → k ∉ M → w.heap[k]? = w0.heap[k]?
  at_ : ∀ e ∈ L, At w e
  nodup : (L.map Blk.b).Nodup
  own : ∀ e ∈ L, w0.heap.size ≤ e.b ∨ e.b ∈ M

section
variable {w0 w w' : World} {M : List Nat} {L : List Blk}

theorem St.init (w : World) : St w [] [] w := ⟨rfl, rfl, rfl, Nat.le_refl _, fun _ _ _ => rfl, by simp, by simp, by simp⟩
/-- A function that writes to given blocks. -/
theorem St.init1 {w : World} {e : Blk} (h : At w e) : St w [e.b] [e] w :=
  ⟨rfl, rfl, rfl, Nat.le_refl _, fun _ _ _ => rfl, by simpa using h, by simp, by simp⟩
theorem St.below (h : St w0 [] L w) : Below w0.heap.size w0 w :=
  ⟨h.os, h.tape, h.output, h.size, fun k hk => h.frame k hk (by simp)⟩
theorem facts_of : ∀ {L : List Blk}, (∀ e ∈ L, At w e) → Facts L w
  | [], _ => trivial
  | e :: L, h => ⟨fun o => (h e (by simp)).cell o, fun o => (h e (by simp)).frozen o, facts_of (fun x hx => h x (by simp [hx]))⟩
theorem St.facts (h : St w0 M L w) : Facts L w := facts_of h.at_
theorem St.get (h : St w0 M L w) (i : Nat) {e : Blk} (hi : L[i]? = some e) : At w e := h.at_ e (List.mem_of_getElem? hi)
theorem St.old (h : St w0 [] L w) : ∀ b o, b < w0.heap.size → w.cell? ⟨b, o, none⟩ = w0.cell? ⟨b, o, none⟩ := fun b o hb => h.below.cell (p := ⟨b, o, none⟩) hb
theorem St.oldAt (h : St w0 [] L w) {e : Blk} (ha : At w0 e) : At w e := ha.below h.below ha.lt
theorem St.drew (h : St w0 M L w) : St w0 M L w.drew := ⟨h.os, h.tape, h.output, h.size, h.frame, h.at_, h.nodup, h.own⟩
theorem St.drewN (h : St w0 M L w) (n : Nat) : St w0 M L (w.drewN n) := ⟨h.os, h.tape, h.output, h.size, h.frame, h.at_, h.nodup, h.own⟩

theorem heap_push_lt (w : World) (o : Obj) (k : Nat) (h : k < w.heap.size) : (w.alloc o).heap[k]? = w.heap[k]? := Below.heap_alloc w o k h
theorem heap_push_new (w : World) (o : Obj) : (w.alloc o).heap[w.heap.size]? = some o := by
  show (w.heap.push o)[w.heap.size]? = _
  simp

theorem St.new (h : St w0 M L w) (c : Array Value) (t : TypeId) : St w0 M (⟨w.heap.size, c.toList, t⟩ :: L) (w.alloc (.cells c t)) := by
  refine ⟨h.os, h.tape, h.output, ?_, ?_, ?_, ?_, ?_⟩
  · have := h.size; simp; omega
  · intro k hk hM
    have := h.size
    rw [heap_push_lt _ _ _ (by omega)]; exact h.frame k hk hM
  · intro e he
    rcases List.mem_cons.1 he with rfl | he
    · unfold At; rw [heap_push_new]
    · exact (h.at_ e he).same (heap_push_lt _ _ _ (h.at_ e he).lt)
  · simp only [List.map_cons, List.nodup_cons]
    refine ⟨fun hm => ?_, h.nodup⟩
    obtain ⟨e, he, hb⟩ := List.mem_map.1 hm
    have := (h.at_ e he).lt
    omega
  · intro e he
    rcases List.mem_cons.1 he with rfl | he
    · exact .inl h.size
    · exact h.own e he

/-- Behind a call that leaves alone what there was. -/
theorem St.call (h : St w0 M L w) (hb : Below w.heap.size w w') : St w0 M L w' := by
  refine ⟨hb.os.trans h.os, hb.tape.trans h.tape, hb.output.trans h.output, Nat.le_trans h.size hb.size, ?_, ?_, h.nodup, h.own⟩
  · intro k hk hM
    have := h.size
    rw [hb.block k (by omega)]; exact h.frame k hk hM
  · exact fun e he => (h.at_ e he).below hb (h.at_ e he).lt
/-- Behind a call that hands back a block of its own. -/
theorem St.add (h : St w0 M L w) {e : Blk} (hge : ∀ x ∈ L, x.b < e.b) (h0 : w0.heap.size ≤ e.b) (ha : At w e) : St w0 M (e :: L) w := by
  refine ⟨h.os, h.tape, h.output, h.size, h.frame, ?_, ?_, ?_⟩
  · intro x hx
    rcases List.mem_cons.1 hx with rfl | hx
    · exact ha
    · exact h.at_ x hx
  · simp only [List.map_cons, List.nodup_cons]
    refine ⟨fun hm => ?_, h.nodup⟩
    obtain ⟨x, hx, hb⟩ := List.mem_map.1 hm
    have := hge x hx
    omega
  · intro x hx
    rcases List.mem_cons.1 hx with rfl | hx
    · exact .inl h0
    · exact h.own x hx
theorem St.callAdd (h : St w0 M L w) (hb : Below w.heap.size w w') {e : Blk} (hge : w.heap.size ≤ e.b) (ha : At w' e) : St w0 M (e :: L) w' :=
  (h.call hb).add (fun x hx => Nat.lt_of_lt_of_le (h.at_ x hx).lt hge) (Nat.le_trans h.size hge) ha
/-- A block that is no longer wanted. -/
theorem St.tail {e : Blk} (h : St w0 M (e :: L) w) : St w0 M L w :=
  ⟨h.os, h.tape, h.output, h.size, h.frame, fun x hx => h.at_ x (by simp [hx]), (by have := h.nodup; simp at this; exact this.2), fun x hx => h.own x (by simp [hx])⟩
theorem St.perm {L' : List Blk} (h : St w0 M L w) (hp : L.Perm L') : St w0 M L' w :=
  ⟨h.os, h.tape, h.output, h.size, h.frame, fun x hx => h.at_ x (hp.symm.subset hx), (hp.map Blk.b).nodup_iff.1 h.nodup, fun x hx => h.own x (hp.symm.subset hx)⟩
theorem St.swap {e f : Blk} (h : St w0 M (e :: f :: L) w) : St w0 M (f :: e :: L) w := h.perm (List.Perm.swap _ _ _)

/-- A list with some of its values set, one by one. -/
def setL (cs : List Value) : Nat → List Value → List Value
  | _, [] => cs
  | o, v :: r => setL (cs.set o v) (o + 1) r
theorem length_setL : ∀ (vs cs : List Value) (o : Nat), (setL cs o vs).length = cs.length
  | [], _, _ => rfl
  | v :: r, cs, o => by rw [setL, length_setL r]; simp
theorem setL_all_aux : ∀ (vs pre post : List Value), post.length = vs.length → setL (pre ++ post) pre.length vs = pre ++ vs
  | [], pre, post, h => by
    have : post = [] := List.eq_nil_of_length_eq_zero h
    subst this; rfl
  | v :: r, pre, [], h => by simp at h
  | v :: r, pre, p :: post, h => by
    rw [setL]
    have e : (pre ++ p :: post).set pre.length v = (pre ++ [v]) ++ post := by simp
    rw [e]
    have := setL_all_aux r (pre ++ [v]) post (by simpa using h)
    simp at this
    simp [this]
theorem setL_all (cs vs : List Value) (h : cs.length = vs.length) : setL cs 0 vs = vs := by
  have := setL_all_aux vs [] cs h
  simpa using this

theorem heap_setCell_at (w : World) (b o : Nat) (v : Value) (cs : List Value) (t : TypeId) (h : At w ⟨b, cs, t⟩) : At (w.setCell ⟨b, o, none⟩ v) ⟨b, cs.set o v, t⟩ := by
  unfold At at *
  simp only at h ⊢
  simp only [World.setCell, Array.getElem?_modify, if_true, h, Option.map_some]
  simp

theorem St.setCell (h : St w0 M L w) (i b : Nat) (cs : List Value) (t : TypeId) (hi : L[i]? = some ⟨b, cs, t⟩) (o : Nat) (v : Value) : St w0 M (L.set i ⟨b, cs.set o v, t⟩) (w.setCell ⟨b, o, none⟩ v) := by
  have hmem : (⟨b, cs, t⟩ : Blk) ∈ L := List.mem_of_getElem? hi
  have hlt : i < L.length := (List.getElem?_eq_some_iff.1 hi).1
  have hget : L[i] = ⟨b, cs, t⟩ := (List.getElem?_eq_some_iff.1 hi).2
  have hmap : (L.set i ⟨b, cs.set o v, t⟩).map Blk.b = L.map Blk.b := by
    rw [List.map_set]
    have e : (L.map Blk.b)[i]'(by simpa using hlt) = b := by simp [hget]
    have q := List.set_getElem_self (as := L.map Blk.b) (i := i) (by simpa using hlt)
    rw [e] at q
    exact q
  refine ⟨h.os, h.tape, h.output, by simpa using h.size, ?_, ?_, by rw [hmap]; exact h.nodup, ?_⟩
  · intro k hk hM
    rw [Below.heap_setCell _ _ _ _ (fun e => ?_)]
    · exact h.frame k hk hM
    · simp only at e
      rcases h.own _ hmem with h1 | h1
      · simp only at h1; omega
      · simp only at h1; exact hM (e ▸ h1)
  · intro e he
    obtain ⟨j, hj, he⟩ := List.mem_iff_getElem.1 he
    by_cases hji : i = j
    · subst hji
      simp at he
      subst he
      exact heap_setCell_at w b o v cs t (h.at_ _ hmem)
    · rw [List.getElem_set_ne hji] at he
      subst he
      have hj' : j < L.length := by simpa using hj
      refine (h.at_ _ (List.getElem_mem hj')).same (Below.heap_setCell _ _ _ _ (fun e => ?_))
      simp only at e
      have hn := h.nodup
      rw [List.nodup_iff_pairwise_ne, List.pairwise_iff_getElem] at hn
      rcases Nat.lt_or_ge i j with hl | hl
      · exact hn i j (by simpa using hlt) (by simpa using hj') hl (by simp [hget, e])
      · exact hn j i (by simpa using hj') (by simpa using hlt) (by omega) (by simp [hget, e])
  · intro e he
    obtain ⟨j, hj, he⟩ := List.mem_iff_getElem.1 he
    by_cases hji : i = j
    · subst hji
      simp at he
      subst he
      exact h.own ⟨b, cs, t⟩ hmem
    · rw [List.getElem_set_ne hji] at he
      subst he
      exact h.own _ (List.getElem_mem _)

theorem St.setCells : ∀ (vs : List Value) {w : World} {L : List Blk} (_ : St w0 M L w) (i b : Nat) (cs : List Value) (t : TypeId) (_ : L[i]? = some ⟨b, cs, t⟩) (o : Nat), St w0 M (L.set i ⟨b, setL cs o vs, t⟩) (w.setCells b o vs)
  | [], w, L, h, i, b, cs, t, hi, o => by
    have hlt : i < L.length := (List.getElem?_eq_some_iff.1 hi).1
    have hget : L[i] = ⟨b, cs, t⟩ := (List.getElem?_eq_some_iff.1 hi).2
    have : L.set i ⟨b, cs, t⟩ = L := hget ▸ List.set_getElem_self hlt
    rw [World.setCells, setL, this]; exact h
  | v :: r, w, L, h, i, b, cs, t, hi, o => by
    have hlt : i < L.length := (List.getElem?_eq_some_iff.1 hi).1
    have h1 := h.setCell i b cs t hi o v
    have h2 := St.setCells r h1 i b (cs.set o v) t (by simp [hlt]) (o + 1)
    rw [World.setCells, setL]
    rwa [List.set_set] at h2

variable {P : Program} {op : Oper} {ops : Array Oper} {rest : List Oper} {a : Act} {K : Act → World → Prop} {Q : Exit → Act → World → Prop}

theorem run_box_ok (t : TypeId) (v : Value) (w : World) : (Instr.box t v).run P w = .ok (.pointer (some ⟨w.heap.size, 0, none⟩)) (w.alloc (.cells v.cells t)) := by
  simp [Instr.box, newVar, newRow, newObj]; rfl

theorem St.wp_box (hst : St w0 M L w) (t : TypeId) (x : Operand) (ho : op.op = .box t x) (v : Value) (hx : a.eval x = v)
    (h : ∀ b w', w0.heap.size ≤ b → St w0 M (⟨b, v.cells.toList, t⟩ :: L) w' → K (a.put op.dst (.pointer (some ⟨b, 0, none⟩))) w') : op.wp P a w K Q := by
  unfold Oper.wp execOp
  simp only [ho, hx, Sem.run_bind, run_box_ok, Result.andThen_ok, Sem.run_pure]
  exact h _ _ hst.size (hst.new _ _)
theorem St.l_boxA (hst : St w0 M L w) (hg : op.guard = none) (t : TypeId) (x : Operand) (ho : op.op = .box t x) (c : Array Value) (hx : a.eval x = .agg c)
    (h : ∀ b w', w0.heap.size ≤ b → St w0 M (⟨b, c.toList, t⟩ :: L) w' → wpList P ops Q rest (a.put op.dst (.pointer (some ⟨b, 0, none⟩))) w') : wpList P ops Q (op :: rest) a w :=
  wpList_plain hg fun _ hK => hst.wp_box t x ho (.agg c) hx (fun b w' h0 h1 => hK _ _ (h b w' h0 h1))
theorem cells_one {v : Value} (h : v.oneCell' = true) : v.cells = #[v] := by
  cases v <;> first | rfl | simp [Value.oneCell'] at h
theorem St.l_box1 (hst : St w0 M L w) (hg : op.guard = none) (t : TypeId) (x : Operand) (ho : op.op = .box t x) (v : Value) (hx : a.eval x = v) (h1 : v.oneCell' = true)
    (h : ∀ b w', w0.heap.size ≤ b → St w0 M (⟨b, [v], t⟩ :: L) w' → wpList P ops Q rest (a.put op.dst (.pointer (some ⟨b, 0, none⟩))) w') : wpList P ops Q (op :: rest) a w :=
  wpList_plain hg fun _ hK => hst.wp_box t x ho v hx (fun b w' h0 h2 => hK _ _ (h b w' h0 (by rw [cells_one h1] at h2; exact h2)))

theorem run_alloc_ok (t : TypeId) (z : Value) (w : World) (hz : ∀ w, (zeroValue t).run P w = .ok z w) : (Instr.alloc t true (.tuple #[])).run P w = .ok (.pointer (some ⟨w.heap.size, 0, none⟩)) (w.alloc (.cells z.cells t)) := by
  simp [Instr.alloc, hz, newVar, newRow, newObj]; rfl
theorem St.wp_alloc (hst : St w0 M L w) (t : TypeId) (ho : op.op = .alloc t) (z : Value) (hz : ∀ w, (zeroValue t).run P w = .ok z w)
    (h : ∀ b w', w0.heap.size ≤ b → St w0 M (⟨b, z.cells.toList, t⟩ :: L) w' → K (a.put op.dst (.pointer (some ⟨b, 0, none⟩))) w') : op.wp P a w K Q := by
  unfold Oper.wp execOp
  simp only [ho, Sem.run_bind, run_alloc_ok t z w hz, Result.andThen_ok, Sem.run_pure]
  exact h _ _ hst.size (hst.new _ _)
theorem St.l_alloc (hst : St w0 M L w) (hg : op.guard = none) (t : TypeId) (ho : op.op = .alloc t) (z : Value) (hz : ∀ w, (zeroValue t).run P w = .ok z w)
    (h : ∀ b w', w0.heap.size ≤ b → St w0 M (⟨b, z.cells.toList, t⟩ :: L) w' → wpList P ops Q rest (a.put op.dst (.pointer (some ⟨b, 0, none⟩))) w') : wpList P ops Q (op :: rest) a w :=
  wpList_plain hg fun _ hK => hst.wp_alloc t ho z hz (fun b w' h0 h1 => hK _ _ (h b w' h0 h1))

/-- Whatever lays one new row and hands back a slice over it. -/
theorem St.wp_row (hst : St w0 M L w) (c : Array Value) (t : TypeId) (n k : Nat) (hr : ∀ w, (execOp a.eval op).run P w = .ok (.value (.slice (some ⟨w.heap.size, 0, none⟩) n k)) (w.alloc (.cells c t)))
    (h : ∀ b w', w0.heap.size ≤ b → St w0 M (⟨b, c.toList, t⟩ :: L) w' → K (a.put op.dst (.slice (some ⟨b, 0, none⟩) n k)) w') : op.wp P a w K Q := by
  unfold Oper.wp
  rw [hr]
  exact h _ _ hst.size (hst.new _ _)
theorem St.l_row (hst : St w0 M L w) (hg : op.guard = none) (c : Array Value) (t : TypeId) (n k : Nat) (hr : ∀ w, (execOp a.eval op).run P w = .ok (.value (.slice (some ⟨w.heap.size, 0, none⟩) n k)) (w.alloc (.cells c t)))
    (h : ∀ b w', w0.heap.size ≤ b → St w0 M (⟨b, c.toList, t⟩ :: L) w' → wpList P ops Q rest (a.put op.dst (.slice (some ⟨b, 0, none⟩) n k)) w') : wpList P ops Q (op :: rest) a w :=
  wpList_plain hg fun _ hK => hst.wp_row c t n k hr (fun b w' h0 h1 => hK _ _ (h b w' h0 h1))

theorem St.l_buildSlice (hst : St w0 M L w) (hg : op.guard = none) (T m : Nat) (ps : Array (Nat × Operand)) (_ho : op.op = .buildSlice T m ps) (c : Array Value) (t : TypeId) (n k : Nat)
    (hr : ∀ w, (execOp a.eval op).run P w = .ok (.value (.slice (some ⟨w.heap.size, 0, none⟩) n k)) (w.alloc (.cells c t)))
    (h : ∀ b w', w0.heap.size ≤ b → St w0 M (⟨b, c.toList, t⟩ :: L) w' → wpList P ops Q rest (a.put op.dst (.slice (some ⟨b, 0, none⟩) n k)) w') : wpList P ops Q (op :: rest) a w :=
  hst.l_row hg c t n k hr h
theorem St.run_store (hst : St w0 M L w) (ty : TypeId) (i b off : Nat) (cs : List Value) (t : TypeId) (hi : L[i]? = some ⟨b, cs, t⟩) (v : Value)
    (hsz : (P.info? ty).map (·.size) = some v.cells.size) (h1 : ∀ u ∈ v.cells.toList, u.oneCell' = true) (hle : off + v.cells.size ≤ cs.length) :
    (Instr.storeAt ty (.pointer (some ⟨b, off, none⟩)) v).run P w = .ok () (w.setCells b off v.cells.toList) := by
  have ha := hst.get i hi
  have hc : ∀ j, j < v.cells.toList.length → (w.cell? ⟨b, off + j, none⟩).isSome = true := fun j hj => by
    rw [ha.cell]
    have : off + j < cs.length := by simp at hj; omega
    simp [this]
  have hf : ∀ j, j < v.cells.toList.length → w.frozen? ⟨b, off + j, none⟩ = false := fun j _ => ha.frozen _
  have := run_storeCells_cells (P := P) b off v.cells.toList 0 w (by simpa using hc) (by simpa using hf) h1
  simp only [Nat.add_zero] at this
  cases hq : P.info? ty with
  | none => simp [hq] at hsz
  | some i =>
    have hs : v.cells.size = i.size := by simp [hq] at hsz; omega
    simp [Instr.storeAt, Instr.sureAddr, storeVar, sizeOf, typeInfo, hq, hs, this]
theorem St.wp_store (hst : St w0 M L w) (ty : TypeId) (x y : Operand) (ho : op.op = .store ty x y) (b off : Nat) (hx : a.eval x = .pointer (some ⟨b, off, none⟩))
    (i : Nat) (cs : List Value) (t : TypeId) (hi : L[i]? = some ⟨b, cs, t⟩) (v : Value) (hy : a.eval y = v)
    (hsz : (P.info? ty).map (·.size) = some v.cells.size) (h1 : ∀ u ∈ v.cells.toList, u.oneCell' = true) (hle : off + v.cells.size ≤ cs.length)
    (h : ∀ w', St w0 M (L.set i ⟨b, setL cs off v.cells.toList, t⟩) w' → K (a.put op.dst undef) w') : op.wp P a w K Q := by
  unfold Oper.wp execOp
  simp only [ho, hx, hy, Sem.run_bind, hst.run_store ty i b off cs t hi v hsz h1 hle, Result.andThen_ok, Sem.run_pure]
  exact h _ (hst.setCells _ i b cs t hi off)
/-- A whole struct (or array) into a variable, or a part of one. -/
theorem St.l_storeA (hst : St w0 M L w) (hg : op.guard = none) (ty : TypeId) (x y : Operand) (ho : op.op = .store ty x y) (b off : Nat) (hx : a.eval x = .pointer (some ⟨b, off, none⟩))
    (i : Nat) (cs : List Value) (t : TypeId) (hi : L[i]? = some ⟨b, cs, t⟩) (c : Array Value) (hy : a.eval y = .agg c)
    (hsz : (P.info? ty).map (·.size) = some c.size) (h1 : ∀ u ∈ c.toList, u.oneCell' = true) (hle : off + c.size ≤ cs.length)
    (h : ∀ w', St w0 M (L.set i ⟨b, setL cs off c.toList, t⟩) w' → wpList P ops Q rest (a.put op.dst undef) w') : wpList P ops Q (op :: rest) a w :=
  wpList_plain hg fun _ hK => hst.wp_store ty x y ho b off hx i cs t hi (.agg c) hy hsz h1 hle (fun w' h0 => hK _ _ (h w' h0))
/-- One cell. -/
theorem St.l_store1 (hst : St w0 M L w) (hg : op.guard = none) (ty : TypeId) (x y : Operand) (ho : op.op = .store ty x y) (b off : Nat) (hx : a.eval x = .pointer (some ⟨b, off, none⟩))
    (i : Nat) (cs : List Value) (t : TypeId) (hi : L[i]? = some ⟨b, cs, t⟩) (v : Value) (hy : a.eval y = v) (h1 : v.oneCell' = true)
    (hsz : (P.info? ty).map (·.size) = some 1) (hle : off < cs.length)
    (h : ∀ w', St w0 M (L.set i ⟨b, cs.set off v, t⟩) w' → wpList P ops Q rest (a.put op.dst undef) w') : wpList P ops Q (op :: rest) a w :=
  wpList_plain hg fun _ hK => hst.wp_store ty x y ho b off hx i cs t hi v hy (by rw [cells_one h1]; exact hsz) (by rw [cells_one h1]; simpa using h1) (by rw [cells_one h1]; exact hle) (fun w' h0 => hK _ _ (h w' (by rw [cells_one h1] at h0; exact h0)))
/-! Guards for a walk's arms: met with_reducible they fail at once where another operation stands first. -/
section
variable {d : Option Tmp} {ty : TypeId} {pos : String} {aft : Array Edge}
theorem isBox {t : TypeId} {x : Operand} (h : wpList P ops Q (⟨d, .box t x, ty, pos, aft, none⟩ :: rest) a w) : wpList P ops Q (⟨d, .box t x, ty, pos, aft, none⟩ :: rest) a w := h
theorem isAlloc {t : TypeId} (h : wpList P ops Q (⟨d, .alloc t, ty, pos, aft, none⟩ :: rest) a w) : wpList P ops Q (⟨d, .alloc t, ty, pos, aft, none⟩ :: rest) a w := h
theorem isStore {t : TypeId} {x y : Operand} (h : wpList P ops Q (⟨d, .store t x y, ty, pos, aft, none⟩ :: rest) a w) : wpList P ops Q (⟨d, .store t x y, ty, pos, aft, none⟩ :: rest) a w := h
theorem isBuildSlice {t n : Nat} {ps : Array (Nat × Operand)} (h : wpList P ops Q (⟨d, .buildSlice t n ps, ty, pos, aft, none⟩ :: rest) a w) : wpList P ops Q (⟨d, .buildSlice t n ps, ty, pos, aft, none⟩ :: rest) a w := h
end
end
end Go.Proofs.YtnpgeklpkmkjeaaDoor
