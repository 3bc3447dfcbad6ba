/- Blocks known exactly (a fresh builder, a builder's bytes): alloc, append, what unsafe.SliceData and unsafe.String do with them. Over any program. -/
import Derived.Test.YtbnemkdkeaiaoaaVd
import Derived.Test.YtbnemkdkeaiaoaaVh
import Derived.Lib.UnsafeStr
namespace Go.Proofs.Ytbnemkdkeaiaoaa
open Go Go.RowKit
set_option linter.unusedSimpArgs false
set_option linter.unusedVariables false
def byteV (b : UInt8) : Value := .int .u8 b.toNat
section
variable {P : Program} {o : Oper} {ts : List VV} {H : Heap} {K : VV → Heap → Prop}
/-- A new variable, known exactly. -/
theorem GOp'.allocR {t : TypeId} {i : TypeInfo} {z : Value} {vs : List Value} (ho : o.op = .alloc t) (hi : P.info? t = some i) (hz : i.zero = some z) (hc : z.cells = vs.toArray) (k : K (.ptr H.next 0) (H.add (.raw t vs (some vs.length)))) : GOp' P o ts H K := ⟨⟨by
  refine (VOne.does (v := .ptr H.next 0) (H' := H.add (.raw t vs (some vs.length))) (fun c e => by simp [ho] at e) ?_).mono fun x K' e => by rw [e.1, e.2]; exact k
  intro B M Z ρ av w h _
  obtain ⟨e1, r1⟩ := h.alloc (.raw t vs (some vs.length)) (.cells vs.toArray t) vs.length ⟨[], by simp, by simp, fun m e => by injection e⟩
  refine ⟨.pointer (some ⟨w.heap.size, 0, none⟩), _, _, ?_, e1, r1, .ptr (upd_self _ _)⟩
  have hzv : (zeroValue t).run P w = .ok z w := by simp [zeroValue, typeInfo, hi, hz]
  have hrun : (Instr.alloc t true (.tuple #[])).run P w = .ok (.pointer (some ⟨w.heap.size, 0, none⟩)) (w.alloc (.cells vs.toArray t)) := by
    simp [Instr.alloc, hzv, newVar, newRow, newObj, hc]
    rfl
  simp [execOp, ho, hrun]⟩⟩
theorem Rel.rawAt {B w : World} {M Z : Nat → Prop} {ρ : Nat → Option (Nat × Nat)} (h : Rel B M Z ρ H w) {b k N : Nat} {e : TypeId} {vs : List Value} {n : Option Nat} (hb : H.get b = some (.raw e vs n)) (hk : ρ b = some (k, N)) : ∃ rest, w.heap[k]? = some (.cells (vs ++ rest).toArray e (0, 0)) ∧ (vs ++ rest).length = N ∧ (∀ m, n = some m → N = m) ∧ ¬ Z k ∧ (B.heap.size ≤ k ∨ M k) := by
  obtain ⟨k', N', o, g1, g2, ⟨rest, rfl, g3, g4⟩, g5, g6⟩ := h.objK hb hk
  rw [hk] at g1; injection g1 with g1; injection g1 with g1 g1'; subst g1 g1'
  exact ⟨rest, g2, g3, g4, g5, g6 rfl⟩
/-- The bytes of a builder. -/
def bufV (b : Nat) : List UInt8 → VV
  | [] => .sc (.slice none 0 0)
  | _ :: r => .sl b 0 (r.length + 1) none 1
/-- The block of a builder's bytes; none: it isn't there. -/
def bufX (e : TypeId) : List UInt8 → VObj
  | [] => .opt []
  | c :: r => .raw e ((c :: r).map byteV) none
theorem pw_bytes {w : World} {Z : Nat → Prop} {ρ : Nat → Option (Nat × Nat)} : ∀ {l : List UInt8} {xs : List Value}, Pw (VRel w Z ρ) (l.map bV) xs → xs = l.map byteV
  | [], xs, h => List.eq_nil_of_length_eq_zero (by simpa using h.1.symm)
  | b :: r, [], h => by have := h.1; simp at this
  | b :: r, x :: xs, h => by
    have h0 := h.2 0 (bV b) x rfl rfl
    have ht : Pw (VRel w Z ρ) (r.map bV) xs := ⟨by have := h.1; simpa using this, fun i u c hu hc => h.2 (i + 1) u c (by simpa using hu) (by simpa using hc)⟩
    rw [pw_bytes ht, sc_inv h0]
    rfl
theorem byte_one (l : List UInt8) : ∀ x ∈ l.map byteV, x.oneCell' = true := fun x hx => by
  obtain ⟨b, _, rfl⟩ := List.mem_map.1 hx
  rfl
/-- append of some bytes to a builder's. -/
theorem GOp'.growR {s x : Operand} {sT xT e : TypeId} {i : TypeInfo} {zv : Value} {d : TypeDesc} {b : Nat} {l l2 : List UInt8} (ho : o.op = .call ⟨.builtin .append, #[s, x], #[sT, xT]⟩) (hu : P.underlying sT = some (.slice e)) (hi : P.info? e = some i) (hs1 : i.size = 1) (hb1 : i.bytes = 1) (hzv : i.zero = some zv) (hzc : zv.cells.size = 1) (hx : P.underlying xT = some d) (hd : ∀ k, d ≠ .int k)
    (hs : veval ts s = bufV b l) (hg : l ≠ [] → H.get b = some (.raw e (l.map byteV) none)) (hl : velems 1 (veval ts x) H = some (l2.length, l2.map bV)) (h0 : l2 ≠ []) (hm : l.length + l2.length ≤ 1000000000)
    (k : K (.sl H.next 0 (l.length + l2.length) none 1) ((H.del b).add (.raw e ((l ++ l2).map byteV) none))) : GOp' P o ts H K := ⟨⟨by
  refine (VOne.does (v := .sl H.next 0 (l.length + l2.length) none 1) (H' := (H.del b).add (.raw e ((l ++ l2).map byteV) none)) (fun c e => by simp [ho] at e) ?_).mono fun x K' e => by rw [e.1, e.2]; exact k
  intro B M Z ρ av w h hav
  have hsv := hav s
  rw [hs] at hsv
  obtain ⟨xs, p1, p2, p3, p4⟩ := velems_sound (P := P) h (hav x) hl
  rw [Nat.mul_one] at p2
  obtain rfl := pw_bytes p1
  have p4' : ∀ W : World, W.heap = w.heap → (Builtin.firstCells i.size l2.length (av x)).run P W = .ok (l2.map byteV).toArray W := fun W hW => by
    have := p4 l2.length (Nat.le_refl _) W hW
    rw [hs1]
    rwa [List.take_of_length_le (by simp)] at this
  have hsz : vsize P e = some i.size := by simp [vsize, hi]
  have hpos : 0 < l2.length := List.length_pos_iff.2 h0
  have hexec : ∀ s', av s = s' → execOp av o = (do pure (.value (← Builtin.append_ #[sT, xT] o.type #[s', av x]))) := fun s' hs' => by
    simp [execOp, ho, resolve, invoke, builtin, hs']
  -- a new row
  have fresh : ∀ (n c : Nat) (base : Option Addr), av s = .slice base n c → n = l.length → (∀ W : World, W.heap = w.heap → (Builtin.firstCells i.size n (.slice base n c)).run P W = .ok (l.map byteV).toArray W) → c < n + l2.length →
      ∃ v' w' ρ', (execOp av o).run P w = .ok (.value v') w' ∧ Ext (own B M) H.next Z ρ w ((H.del b).add (.raw e ((l ++ l2).map byteV) none)).next Z ρ' w' ∧ Rel B M Z ρ' ((H.del b).add (.raw e ((l ++ l2).map byteV) none)) w' ∧ VRel w' Z ρ' (.sl H.next 0 (l.length + l2.length) none 1) v' := by
    intro n c base e1 en hos hc
    subst en
    obtain ⟨cap, rest, q1, q2, q3⟩ := run_append_new (ty := o.type) hu hx hd hi hzv p3 p4' hos hc (by rw [hb1]; omega) (by omega)
    obtain ⟨g1, g2⟩ := ((h.del b).drew).alloc (.raw e ((l ++ l2).map byteV) none) (.cells ((l.map byteV).toArray ++ (l2.map byteV).toArray ++ rest) e) ((l ++ l2).map byteV ++ rest.toList).length ⟨rest.toList, by simp, rfl, fun m e => by cases e⟩
    refine ⟨.slice (some ⟨w.heap.size, 0, none⟩) (l.length + l2.length) cap, w.drew.alloc (.cells ((l.map byteV).toArray ++ (l2.map byteV).toArray ++ rest) e), upd ρ H.next (w.heap.size, ((l ++ l2).map byteV ++ rest.toList).length), by rw [hexec _ e1]; simp [q2], (Ext.drew (n := H.next)).trans g1, g2, .sl (upd_self _ _) q1 (fun q e => by cases e) fun _ => ?_⟩
    rw [q3]
    simp [size_zeroCells, hzc]
    omega
  cases l with
  | nil =>
    have hsv : VRel w Z ρ (.sc (.slice none 0 0)) (av s) := hsv
    have e1 := sc_inv hsv
    exact fresh 0 0 none e1 rfl (fun W _ => by simp [Builtin.firstCells]) (by omega)
  | cons c0 r =>
    have hsv : VRel w Z ρ (.sl b 0 (r.length + 1) none 1) (av s) := hsv
    have hgb := hg (by simp)
    generalize hav2 : av s = s' at hsv
    cases hsv with
    | @sl _ _ _ kk N c' _ _ hk hn hc hz =>
      have hz := hz rfl
      obtain ⟨rest, r1, r2, _, r3, r4⟩ := h.rawAt hgb hk
      by_cases hfit : r.length + 1 + l2.length ≤ c'
      · obtain ⟨s1, s2, s3, s4, s5, s6⟩ := heap_setCells kk e (0, 0) (l2.map byteV) (r.length + 1) w _ r1
        have hN : r.length + 1 + (l2.map byteV).length ≤ ((c0 :: r).map byteV ++ rest).length := by
          simp only [List.length_map]
          omega
        have hrun := run_storeCells_cells (P := P) kk (r.length + 1) (l2.map byteV) 0 w (fun j hj => by rw [cell_of_cells r1]; simp at hN hj ⊢; omega) (fun j hj => by rw [frozen_of_cells r1]; simp) (byte_one l2)
        rw [Nat.add_zero] at hrun
        have hsr : setRun ((c0 :: r).map byteV ++ rest) (r.length + 1) (l2.map byteV) = (c0 :: r ++ l2).map byteV ++ rest.drop l2.length := by
          rw [setRun_eq _ _ _ hN]
          have q1 : ((c0 :: r).map byteV ++ rest).take (r.length + 1) = (c0 :: r).map byteV := by
            rw [List.take_append_of_le_length (by simp)]
            exact List.take_of_length_le (by simp)
          have q2 : ((c0 :: r).map byteV ++ rest).drop (r.length + 1 + (l2.map byteV).length) = rest.drop l2.length := by
            rw [List.drop_append, List.drop_of_length_le (by simp), List.nil_append]
            congr 1
            simp
          rw [q1, q2, List.map_append]
        obtain ⟨g1, g2⟩ := h.rename hgb hk rfl s4 s5 s6 s3 s2 s1 (y := .raw e ((c0 :: r ++ l2).map byteV) none) rfl ⟨rest.drop l2.length, by
          rw [← hsr], by
          rw [← r2]
          simp only [List.length_append, List.length_map, List.length_cons, List.length_drop] at hN ⊢
          omega, fun m e => by cases e⟩
        refine ⟨.slice (some ⟨kk, 0, none⟩) (r.length + 1 + l2.length) c', _, _, ?_, g1, g2, .sl (upd_self _ _) hfit (fun q e => by cases e) fun _ => hz⟩
        have := run_append_fit (ty := o.type) hu hx hd hsz p3 p4' hfit (base := some ⟨kk, 0, none⟩) (fun a ha => by cases ha; rw [add_mk, Nat.zero_add, hs1, Nat.mul_one]; exact hrun) (fun e => by cases e)
        rw [hexec _ hav2]
        simp [this]
      · refine fresh (r.length + 1) c' (some ⟨kk, 0, none⟩) hav2 rfl (fun W hW => ?_) (by omega)
        have := run_loadCells_list (P := P) W ⟨kk, 0, none⟩ ((c0 :: r).map byteV) (fun j v hj => by
          rw [cell_same hW, add_mk, cell_of_cells r1]
          have hjl : j < ((c0 :: r).map byteV).length := (List.getElem?_eq_some_iff.1 hj).1
          rw [Nat.zero_add]
          simp only [List.getElem?_toArray]
          rw [List.getElem?_append_left hjl]
          exact hj)
        simpa [Builtin.firstCells, hs1] using this⟩⟩
/-- unsafe.SliceData. -/
theorem GOp'.sliceD0 {s : Operand} {ats : Array TypeId} (ho : o.op = .call ⟨.builtin .unsafeSliceData, #[s], ats⟩) (hs : veval ts s = .sc (.slice none 0 0)) (k : K (.sc (.pointer none)) H) : GOp' P o ts H K := ⟨⟨by
  refine VOne.exec' k (fun c e => by simp [ho] at e) fun av w Z ρ hr => ?_
  have hv := hr s
  rw [hs] at hv
  have e1 := sc_inv hv
  refine ⟨.pointer none, ?_, .sc rfl⟩
  have hrun : (Builtin.unsafeSliceData_ ats o.type #[.slice none 0 0]).run P w = .ok (.pointer none) w := rfl
  simp [execOp, ho, resolve, invoke, builtin, e1, hrun]⟩⟩
theorem GOp'.sliceD {s : Operand} {ats : Array TypeId} {b q n z : Nat} (ho : o.op = .call ⟨.builtin .unsafeSliceData, #[s], ats⟩) (hs : veval ts s = .sl b q n none z) (h0 : n ≠ 0) (k : K (.ptr b q) H) : GOp' P o ts H K := ⟨⟨by
  refine VOne.exec' k (fun c e => by simp [ho] at e) fun av w Z ρ hr => ?_
  have hv := hr s
  rw [hs] at hv
  generalize hav : av s = y at hv
  cases hv with
  | @sl _ _ _ kk N c' _ _ hk hn hc hz =>
    refine ⟨.pointer (some ⟨kk, q, none⟩), ?_, .ptr hk⟩
    have hrun := Lib.run_unsafeSliceData_row (P := P) (w := w) ats o.type ⟨kk, q, none⟩ n c' (by omega)
    simp [execOp, ho, resolve, invoke, builtin, hav, hrun]⟩⟩
/-- unsafe.String. -/
theorem GOp'.uStr0 {p n : Operand} {pt it : TypeId} (ho : o.op = .call ⟨.builtin .unsafeString, #[p, n], #[pt, it]⟩) (hp : veval ts p = .sc (.pointer none)) (hn : veval ts n = iV 0) (k : K (strV []) H) : GOp' P o ts H K := ⟨⟨by
  refine VOne.exec' k (fun c e => by simp [ho] at e) fun av w Z ρ hr => ?_
  have hv := hr p
  rw [hp] at hv
  have e1 := sc_inv hv
  have hv2 := hr n
  rw [hn] at hv2
  have e2 := sc_inv hv2
  refine ⟨.string .empty, ?_, .sc rfl⟩
  have hrun := Lib.run_unsafeString_none (P := P) (w := w) pt it o.type none
  simp [execOp, ho, resolve, invoke, builtin, e1, e2, hrun]⟩⟩
theorem GOp'.uStr {p n : Operand} {pt it e : TypeId} {b : Nat} {l : List UInt8} (ho : o.op = .call ⟨.builtin .unsafeString, #[p, n], #[pt, it]⟩) (hpt : P.underlying pt = some (.pointer e)) (hce : P.cellsOf e = 1) (hp : veval ts p = .ptr b 0) (hn : veval ts n = iV l.length) (hg : H.get b = some (.raw e (l.map byteV) none)) (h0 : l ≠ []) (hm : l.length ≤ 1000000000)
    (k : K (strV l) (H.del b)) : GOp' P o ts H K := ⟨⟨by
  refine (VOne.does (v := strV l) (H' := H.del b) (fun c e => by simp [ho] at e) ?_).mono fun x K' e => by rw [e.1, e.2]; exact k
  intro B M Z ρ av w h hr
  have hv := hr p
  rw [hp] at hv
  have hv2 := hr n
  rw [hn] at hv2
  have e2 := sc_inv hv2
  generalize hav : av p = y at hv
  cases hv with
  | @ptr _ _ kk N hk =>
    obtain ⟨rest, r1, r2, _, r3, r4⟩ := h.rawAt hg hk
    have hlen : l.length ≤ (l.map byteV ++ rest).length := by simp
    have hsh : w.shape? kk = some (e, (l.map byteV ++ rest).length) := by
      unfold World.shape?
      rw [r1]
      simp
    have hrun := Lib.run_unsafeString_row (P := P) w pt it o.type e hpt hce kk _ hsh l h0 hlen (by omega) (fun j x hj => by
      rw [add_mk, cell_of_cells r1, Nat.zero_add]
      simp only [List.getElem?_toArray]
      rw [List.getElem?_append_left (by rw [List.length_map]; exact (List.getElem?_eq_some_iff.1 hj).1), List.getElem?_map, hj]
      rfl)
    have hl0 : ¬ l.length = 0 := by simpa using h0
    have hf : w.freeze ⟨kk, 0, none⟩ l.length = { w with heap := w.heap.modify kk (fun
      | .cells c elem (lo, hi) => .cells c elem (if lo == hi then (0, 0 + l.length) else (min lo 0, max hi (0 + l.length)))
      | o => o) } := by
      simp only [World.freeze]
      rw [if_neg hl0]
      rfl
    obtain ⟨e1, rr⟩ := h.turn hg hk rfl (y := .gone) rfl (w' := w.freeze ⟨kk, 0, none⟩ l.length) (by rw [hf]) (by rw [hf]) (by rw [hf]) (by rw [hf]; simp) (fun j hj => by
      rw [hf]
      simp only [Array.getElem?_modify]
      rw [if_neg (fun e => hj e.symm)]) (o := .cells (l.map byteV ++ rest).toArray e (0, 0 + l.length)) (by
      rw [hf]
      simp only [Array.getElem?_modify, if_true, r1, Option.map_some]
      rfl) trivial
    refine ⟨.string ⟨l.toArray⟩, _, ρ, ?_, e1, rr.weaken rfl fun c x hx => ?_, .sc rfl⟩
    · simp [execOp, ho, resolve, invoke, builtin, hav, e2, hrun]
    · rw [Heap.get_del] at hx
      split at hx
      · cases hx
      · rename_i hne
        rw [Heap.get_set, if_neg hne]
        exact hx⟩⟩
end
end Go.Proofs.Ytbnemkdkeaiaoaa
