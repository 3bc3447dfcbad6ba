/- The walk's operations on virtual values, third part: literals, make, append, copy, conversions, nil. Over any program. -/
import Derived.Test.YtbnemkdkeaiaoaaVp
import Derived.Laws.BytesString
namespace Go.Proofs.Ytbnemkdkeaiaoaa
open Go Go.RowKit
set_option linter.unusedSimpArgs false
set_option linter.unusedVariables false
section
variable {P : Program} {B : World} {M : Nat → Prop} {Z : Nat → Prop} {ρ : Nat → Option (Nat × Nat)} {w : World} {H : Heap}

/-- Parts laid into cells. -/
def vfill (place : Nat → Option (Nat × Nat)) (cells : List VV) : List (Nat × VV) → Option (List VV)
  | [] => some cells
  | (i, v) :: rest => match place i with
    | none => none
    | some (off, size) => match cellsOf v with
      | none => none
      | some l => match Nat.beq l.length size && Nat.ble (off + l.length) cells.length with
        | true => vfill place (setRun cells off l) rest
        | false => none
theorem foldl_setRun : ∀ (l : List Value) (off j : Nat) (cs : Array Value), ((l.zipIdx j).foldl (fun cs (c, i) => cs.setIfInBounds (off + i) c) cs).toList = setRun cs.toList (off + j) l
  | [], _, _, _ => rfl
  | v :: r, off, j, cs => by
    simp only [List.zipIdx_cons, List.foldl_cons, setRun]
    rw [foldl_setRun r off (j + 1)]
    simp [Nat.add_assoc]
theorem pw_setRun {R : VV → Value → Prop} : ∀ {l : List VV} {xs : List Value} (hl : Pw R l xs) {vs : List VV} {cs : List Value} (h : Pw R vs cs) (o : Nat), Pw R (setRun vs o l) (setRun cs o xs)
  | [], [], _, vs, cs, h, o => h
  | v :: r, x :: xs, hl, vs, cs, h, o => by
    have hv : R v x := hl.2 0 v x rfl rfl
    have ht : Pw R r xs := ⟨by have := hl.1; simpa using this, fun i u c hu hc => hl.2 (i + 1) u c (by simpa using hu) (by simpa using hc)⟩
    exact pw_setRun ht (h.set o hv) (o + 1)
  | [], x :: xs, hl, _, _, _, _ => by have := hl.1; simp at this
  | v :: r, [], hl, _, _, _, _ => by have := hl.1; simp at this
def PwP (R : VV → Value → Prop) : List (Nat × VV) → List (Nat × Value) → Prop
  | [], [] => True
  | (i, v) :: r, (j, x) :: s => i = j ∧ R v x ∧ PwP R r s
  | _, _ => False
theorem range0 : Array.range 0 = #[] := rfl
theorem vfill_sound {place : Nat → Option (Nat × Nat)} : ∀ {ps : List (Nat × VV)} {qs : List (Nat × Value)} {cells l : List VV} {cs : Array Value}, PwP (VRel w Z ρ) ps qs → Pw (VRel w Z ρ) cells cs.toList → vfill place cells ps = some l →
    ∃ cs', Instr.fill place cs qs = some cs' ∧ Pw (VRel w Z ρ) l cs'.toList ∧ cs'.size = cs.size
  | [], [], cells, l, cs, _, hc, h => by simp [vfill] at h; subst h; exact ⟨cs, rfl, hc, rfl⟩
  | (i, v) :: r, (j, x) :: s, cells, l, cs, hp, hc, h => by
    obtain ⟨rfl, hv, hp⟩ := hp
    simp only [vfill] at h
    split at h
    · simp at h
    · rename_i off size hpl
      split at h
      · simp at h
      · rename_i lv hlv
        split at h
        · rename_i hb
          simp only [Bool.and_eq_true] at hb
          have h1 := Nat.eq_of_beq_eq_true hb.1
          have h2 := Nat.le_of_ble_eq_true hb.2
          obtain ⟨hx, _⟩ := cellsOf_rel hlv hv
          have hlx := hx.1
          have hlc := hc.1
          simp at hlx hlc
          have hcs : Pw (VRel w Z ρ) (setRun cells off lv) ((x.cells.zipIdx.foldl (fun cs (c, j) => cs.setIfInBounds (off + j) c) cs)).toList := by
            rw [← Array.foldl_toList, Array.toList_zipIdx, foldl_setRun]
            exact pw_setRun hx hc _
          obtain ⟨cs', g1, g2, g3⟩ := vfill_sound hp hcs h
          refine ⟨cs', ?_, g2, ?_⟩
          · simp only [Instr.fill, hpl]
            rw [if_neg (by simp; omega)]
            exact g1
          · rw [g3]
            have := congrArg List.length (show ((x.cells.zipIdx.foldl (fun cs (c, j) => cs.setIfInBounds (off + j) c) cs)).toList = setRun cs.toList (off + 0) x.cells.toList by rw [← Array.foldl_toList, Array.toList_zipIdx, foldl_setRun])
            simpa [length_setRun] using this
        · simp at h
  | [], _ :: _, _, _, _, hp, _, _ => hp.elim
  | _ :: _, [], _, _, _, hp, _, _ => hp.elim

/-- The places of a struct's fields. -/
def vplaces (P : Program) : List Field → Option (List (Nat × Nat))
  | [] => some []
  | f :: r => match vsize P f.type, vplaces P r with
    | some n, some l => some ((f.offset, n) :: l)
    | _, _ => none
theorem run_places : ∀ {fs : List Field} {l : List (Nat × Nat)} (W : World), vplaces P fs = some l → (fs.mapM fun f => do pure (f.offset, ← sizeOf f.type) : Sem (List (Nat × Nat))).run P W = .ok l W
  | [], l, W, h => by simp [vplaces] at h; subst h; rfl
  | f :: r, l, W, h => by
    simp only [vplaces] at h
    split at h
    · rename_i n l' hn hl
      simp at h
      subst h
      have ih := run_places W hl
      rw [List.mapM_cons]
      simp only [Sem.run_bind, run_sizeOf hn, Result.andThen_ok, Sem.run_pure]
      rw [ih]
      rfl
    · simp at h
def vbuild (P : Program) (t : TypeId) (ps : List (Nat × VV)) : Option VV := match vzero P t with
  | some z => match P.underlying t with
    | some (.struct fs) => match vplaces P fs.toList with
      | some l => match vfill (fun i => l[i]?) z ps with
        | some cs => some (.ag cs)
        | none => none
      | none => none
    | some (.array _ e) => match vsize P e with
      | some n => match vfill (fun i => some (i * n, n)) z ps with
        | some cs => some (.ag cs)
        | none => none
      | none => none
    | _ => none
  | none => none
theorem vbuild_sound (h : Rel B M Z ρ H w) {t : TypeId} {ps : List (Nat × VV)} {qs : Array (Nat × Value)} {v : VV} (hp : PwP (VRel w Z ρ) ps qs.toList) (hv : vbuild P t ps = some v) : Does P B M H.next Z ρ w (Instr.build t qs) v H := by
  unfold vbuild at hv
  split at hv
  · rename_i zl hz
    obtain ⟨z, hz1, hz2, _⟩ := run_zeroValue hz
    split at hv
    · rename_i fs hu
      split at hv
      · rename_i l hl
        split at hv
        · rename_i cs hf
          simp at hv
          subst hv
          obtain ⟨cs', g1, g2, _⟩ := vfill_sound hp (hz2 w Z ρ) hf
          refine Does.same h (v' := .agg cs') ?_ (.ag' g2)
          have hm := run_places (P := P) w hl
          have g1' : Instr.fill (fun x => l.toArray[x]?) z.cells qs.toList = some cs' := by simpa using g1
          simp only [Instr.build, Sem.run_bind, hz1, Result.andThen_ok, run_underlying hu, Array.mapM_eq_mapM_toList, Sem.run_map, hm, g1']
          rfl
        · simp at hv
      · simp at hv
    · rename_i nn e hu
      split at hv
      · rename_i n hn
        split at hv
        · rename_i cs hf
          simp at hv
          subst hv
          obtain ⟨cs', g1, g2, _⟩ := vfill_sound hp (hz2 w Z ρ) hf
          refine Does.same h (v' := .agg cs') ?_ (.ag' g2)
          simp [Instr.build, hz1, run_underlying hu, run_sizeOf hn, g1]
        · simp at hv
      · simp at hv
    · simp at hv
  · simp at hv

/-- So many zeroes. -/
def vzeros (zl : List VV) (n : Nat) : List VV := match zl with
  | [z] => List.replicate n z
  | _ => (List.range n).map fun i => (zl[i % zl.length]?).getD .junk
theorem vzeros_rel {zl : List VV} {z : Array Value} (h : Pw (VRel w Z ρ) zl z.toList) (n : Nat) (h0 : n = 0 ∨ 0 < zl.length) : Pw (VRel w Z ρ) (vzeros zl n) ((Array.range n).map (fun i => z[i % z.size]!)).toList := by
  have hl := h.1
  simp at hl
  have gen : Pw (VRel w Z ρ) ((List.range n).map fun i => (zl[i % zl.length]?).getD .junk) ((Array.range n).map (fun i => z[i % z.size]!)).toList := by
    refine ⟨by simp, fun i u c hu hc => ?_⟩
    have hi : i < n := by
      have := (List.getElem?_eq_some_iff.1 hu).1
      simpa using this
    have hz : 0 < zl.length := by omega
    have hm : i % zl.length < zl.length := Nat.mod_lt _ hz
    simp [hi] at hu hc
    subst hu hc
    rw [← hl]
    obtain ⟨c, hc, hr⟩ := h.get (List.getElem?_eq_getElem hm)
    have : z[i % zl.length]? = some c := by simpa using hc
    rw [List.getElem?_eq_getElem hm]
    simp only [Option.getD_some, getElem!_def, this]
    exact hr
  unfold vzeros
  split
  · rename_i zz
    have e : ((List.range n).map fun i => (([zz] : List VV)[i % ([zz] : List VV).length]?).getD .junk) = List.replicate n zz := by
      apply List.ext_getElem?
      intro i
      by_cases hi : i < n
      · simp [hi, Nat.mod_one]
      · simp [hi]
    rw [e] at gen
    exact gen
  · exact gen
def vbuildSlice (P : Program) (t : TypeId) (len : Nat) (ps : List (Nat × VV)) (H : Heap) : Option (VV × Heap) := match P.underlying t with
  | some (.slice e) => match vsize P e, vzero P e with
    | some n, some zl => match Nat.beq zl.length n && Nat.ble (len * n) 16777216 && Nat.blt 0 n with
      | true => match vfill (fun i => some (i * n, n)) (vzeros zl (len * n)) ps with
        | some cs => some (.sl H.next 0 len (some len) n, H.add (.cells true cs))
        | none => none
      | false => none
    | _, _ => none
  | _ => none
theorem vbuildSlice_sound (h : Rel B M Z ρ H w) {t : TypeId} {len : Nat} {ps : List (Nat × VV)} {qs : Array (Nat × Value)} {v : VV} {H' : Heap} (hp : PwP (VRel w Z ρ) ps qs.toList) (hv : vbuildSlice P t len ps H = some (v, H')) :
    Does P B M H.next Z ρ w (Instr.buildSlice t len qs) v H' := by
  unfold vbuildSlice at hv
  split at hv
  · rename_i e hu
    split at hv
    · rename_i n zl hn hz
      split at hv
      · rename_i hb
        simp only [Bool.and_eq_true] at hb
        have h1 := Nat.eq_of_beq_eq_true hb.1.1
        have h2 := Nat.le_of_ble_eq_true hb.1.2
        have h3 := Nat.le_of_ble_eq_true hb.2
        split at hv
        · rename_i cs hf
          simp at hv
          obtain ⟨rfl, rfl⟩ := hv
          obtain ⟨z, hz1, hz2, _⟩ := run_zeroValue hz
          obtain ⟨cs', g1, g2, _⟩ := vfill_sound hp (vzeros_rel (hz2 w Z ρ) (len * n) (by omega)) hf
          obtain ⟨ρ', f1, f2, f3, f4⟩ := does_newRow (P := P) h g2.pre e
          have hno : ¬ (len * n > 2 ^ 24) := by omega
          refine ⟨_, _, ρ', ?_, f2, f3, .sl f4 (Nat.le_refl _) (fun q e => by cases e; rfl) (fun e => by cases e)⟩
          by_cases h0 : len * n = 0
          · rw [h0] at g1
            have g1' : Instr.fill (fun i => some (i * n, n)) #[] qs.toList = some cs' := by simpa [range0] using g1
            simp [Instr.buildSlice, run_underlying hu, run_sizeOf hn, h0, range0, g1', f1]
          · have hno' : ¬ (16777216 < len * n) := by omega
            simp [Instr.buildSlice, run_underlying hu, run_sizeOf hn, hno', h0, hz1, g1, f1]
        · simp at hv
      · simp at hv
    · simp at hv
  · simp at hv
def vmakeSlice (P : Program) (t : TypeId) (len cap : VV) (H : Heap) : Option (VV × Heap) := match len, cap, P.underlying t with
  | .sc (.int _ l), .sc (.int _ c), some (.slice e) => match P.info? e, vzero P e with
    | some i, some zl => if 0 ≤ l ∧ l ≤ c ∧ c ≤ 140737488355328 ∧ c.toNat * i.bytes ≤ 140737488355328 ∧ zl.length = i.size ∧ 0 < i.size then
        some (.sl H.next 0 l.toNat (some c.toNat) i.size, H.add (.cells true (vzeros zl (c.toNat * i.size)))) else none
    | _, _ => none
  | _, _, _ => none
theorem vmakeSlice_sound (h : Rel B M Z ρ H w) {t : TypeId} {len cap v : VV} {len' cap' : Value} {H' : Heap} (hl : VRel w Z ρ len len') (hc : VRel w Z ρ cap cap') (hv : vmakeSlice P t len cap H = some (v, H')) :
    Does P B M H.next Z ρ w (Instr.makeSlice t len' cap') v H' := by
  unfold vmakeSlice at hv
  split at hv
  · rename_i k1 l k2 c e hu
    split at hv
    · rename_i i zl hi hz
      split at hv
      · rename_i hcond
        obtain ⟨a1, a2, a3, a4, a5, a6⟩ := hcond
        simp at hv
        obtain ⟨rfl, rfl⟩ := hv
        cases hl
        cases hc
        obtain ⟨z, hz1, hz2, _⟩ := run_zeroValue hz
        have hsz : vsize P e = some i.size := by simp [vsize, hi]
        have hwl : IntKind.i64.wrap l = l := by rw [IntKind.wrap_i64]; omega
        have hwc : IntKind.i64.wrap c = c := by rw [IntKind.wrap_i64]; omega
        obtain ⟨c0, rfl⟩ := Int.eq_ofNat_of_zero_le (show 0 ≤ c by omega)
        obtain ⟨l0, rfl⟩ := Int.eq_ofNat_of_zero_le a1
        simp only [Int.toNat_natCast] at a4
        have hb : ¬ (281474976710656 < (i.bytes : Int) * (c0 : Int)) := by
          have : ((c0 * i.bytes : Nat) : Int) ≤ 140737488355328 := by omega
          rw [Int.natCast_mul, Int.mul_comm] at this
          omega
        have hbl : ¬ ((c0 : Int) < (l0 : Int)) := by omega
        obtain ⟨ρ', f1, f2, f3, f4⟩ := does_newRow (P := P) h (vzeros_rel (hz2 w Z ρ) (c0 * i.size) (by omega)).pre e
        refine ⟨.slice (some ⟨w.heap.size, 0, none⟩) l0 c0, _, ρ', ?_, f2, f3, .sl f4 (by omega) (fun q e => by cases e; simp) (fun e => by cases e)⟩
        have hn1 : ¬ ((c0 : Int) < 0) := by omega
        have hn2 : ¬ ((l0 : Int) < 0) := by omega
        by_cases h0 : c0 * i.size = 0
        · rw [h0] at f1
          have f1' : (newRow e #[]).run P w = .ok ⟨w.heap.size, 0, none⟩ (w.alloc (.cells ((Array.range (c0 * i.size)).map (fun j => z.cells[j % z.cells.size]!)) e)) := by simpa [h0, range0] using f1
          simp [Instr.makeSlice, run_underlying hu, asInt, asIntOf, typeInfo, hi, hwl, hwc, hb, hbl, hn1, hn2, run_sizeOf hsz, h0, range0, f1']
        · simp [Instr.makeSlice, run_underlying hu, asInt, asIntOf, typeInfo, hi, hwl, hwc, hb, hbl, hn1, hn2, run_sizeOf hsz, h0, hz1, f1]
      · simp at hv
    · simp at hv
  · simp at hv

/-- What a slice or a string has: how many elements; their cells. -/
def velems (z : Nat) (x : VV) (H : Heap) : Option (Nat × List VV) := match x with
  | .sl b o n _ _ => match H.get b with
    | some (.cells _ vs) => if o + n * z ≤ vs.length then some (n, (vs.drop o).take (n * z)) else none
    | _ => none
  | .ro n vs => if vs.length = n * z then some (n, vs) else none
  | .gs b n z' => match H.get b with
    | some (.opt vs) => if vs.length = n * z ∧ z' = z then some (n, vs) else none
    | _ => none
  | .sc (.slice none 0 _) => some (0, [])
  | .sc (.string s) => if z = 1 then some (s.size, s.data.toList.map fun b => .sc (.int .u8 b.toNat)) else none
  | _ => none
theorem cell_same {W : World} (h : W.heap = w.heap) (a : Addr) : W.cell? a = w.cell? a := by simp [World.cell?, h]
theorem velems_sound (h : Rel B M Z ρ H w) {z : Nat} {x : VV} {x' : Value} {n : Nat} {l : List VV} (hx : VRel w Z ρ x x') (hv : velems z x H = some (n, l)) :
    ∃ xs : List Value, Pw (VRel w Z ρ) l xs ∧ xs.length = n * z ∧ (∀ W : World, (Builtin.lenOf x').run P W = .ok n W) ∧ ∀ m, m ≤ n → ∀ W : World, W.heap = w.heap → (Builtin.firstCells z m x').run P W = .ok (xs.take (m * z)).toArray W := by
  unfold velems at hv
  split at hv
  · rename_i b o n' c z'
    split at hv
    · rename_i r vs hb
      split at hv
      · rename_i hle
        simp at hv
        obtain ⟨rfl, rfl⟩ := hv
        cases hx with
        | sl hk hn hc hzz =>
          obtain ⟨ds, g1, g2, g3⟩ := h.read hb hk o (n' * z) hle
          refine ⟨ds, g1, g2, fun W => rfl, fun m hm W hW => ?_⟩
          have hmz : m * z ≤ n' * z := Nat.mul_le_mul_right _ hm
          have hl : (ds.take (m * z)).length = m * z := by simp; omega
          have := run_loadCells_list (P := P) W _ (ds.take (m * z)) (fun j v hj => by
            have hjm : j < m * z := by
              have := (List.getElem?_eq_some_iff.1 hj).1
              omega
            rw [List.getElem?_take_of_lt hjm] at hj
            rw [cell_same hW]
            exact g3 j v hj)
          rw [hl] at this
          simpa [Builtin.firstCells] using this
      · simp at hv
    · simp at hv
  · split at hv
    · rename_i n' vs hle
      simp at hv
      obtain ⟨rfl, rfl⟩ := hv
      cases hx with
      | @ro _ k o c' _ cs hZ hn hlen hcell hrel =>
        refine ⟨cs, ⟨hlen, hrel⟩, by omega, fun W => rfl, fun m hm W hW => ?_⟩
        have hmz : m * z ≤ n' * z := Nat.mul_le_mul_right _ hm
        have hl : (cs.take (m * z)).length = m * z := by simp; omega
        have := run_loadCells_list (P := P) W ⟨k, o, none⟩ (cs.take (m * z)) (fun j v hj => by
          have hjm : j < m * z := by
            have := (List.getElem?_eq_some_iff.1 hj).1
            omega
          rw [List.getElem?_take_of_lt hjm] at hj
          rw [cell_same hW, add_mk, hcell j (by have := (List.getElem?_eq_some_iff.1 hj).1; omega)]
          exact hj)
        rw [hl] at this
        simpa [Builtin.firstCells] using this
      | @ro0 a c' =>
        refine ⟨[], Pw.nil, by simp, fun W => rfl, fun m hm W hW => ?_⟩
        obtain rfl : m = 0 := by omega
        cases a with
        | none => simp [Builtin.firstCells]
        | some a => simp [Builtin.firstCells, loadCells, loadCellsFrom]
    · simp at hv
  · rename_i b n' z'
    split at hv
    · rename_i vs hb
      split at hv
      · rename_i hle
        simp at hv
        obtain ⟨rfl, rfl⟩ := hv
        obtain ⟨hle, rfl⟩ := hle
        cases hx with
        | @gs0 _ _ a =>
          obtain rfl : vs = [] := List.eq_nil_of_length_eq_zero (by simpa using hle)
          refine ⟨[], Pw.nil, by simp, fun W => rfl, fun m hm W hW => ?_⟩
          obtain rfl : m = 0 := by omega
          cases a with
          | none => simp [Builtin.firstCells]
          | some a => simp [Builtin.firstCells, loadCells, loadCellsFrom]
        | gs hk hn hzz h0 =>
          have h2 := h.toCells hb hk
          have hb2 : (H.set b (.cells true vs)).get b = some (.cells true vs) := by rw [Heap.get_set, if_pos rfl, hb]; rfl
          obtain ⟨ds, g1, g2, g3⟩ := h2.read hb2 hk 0 (n' * z') (by omega)
          rw [List.drop_zero, List.take_of_length_le (by omega)] at g1
          refine ⟨ds, g1, g2, fun W => rfl, fun m hm W hW => ?_⟩
          have hmz : m * z' ≤ n' * z' := Nat.mul_le_mul_right _ hm
          have hl : (ds.take (m * z')).length = m * z' := by simp; omega
          have := run_loadCells_list (P := P) W _ (ds.take (m * z')) (fun j v hj => by
            have hjm : j < m * z' := by
              have := (List.getElem?_eq_some_iff.1 hj).1
              omega
            rw [List.getElem?_take_of_lt hjm] at hj
            rw [cell_same hW]
            exact g3 j v hj)
          rw [hl] at this
          simpa [Builtin.firstCells] using this
      · simp at hv
    · simp at hv
  · simp at hv
    obtain ⟨rfl, rfl⟩ := hv
    cases hx
    exact ⟨[], Pw.nil, by simp, fun W => rfl, fun m hm W hW => by simp [Builtin.firstCells]⟩
  · split at hv
    · rename_i s hz
      subst hz
      simp at hv
      obtain ⟨rfl, rfl⟩ := hv
      cases hx
      refine ⟨s.data.toList.map fun b => .int .u8 b.toNat, ?_, by rw [List.length_map, Nat.mul_one]; rfl, fun W => rfl, fun m hm W hW => ?_⟩
      · have := pw_sc (w := w) (Z := Z) (ρ := ρ) (l := s.data.toList.map fun b => Value.int .u8 b.toNat) (List.all_eq_true.2 (by intro x hx; obtain ⟨b, _, rfl⟩ := List.mem_map.1 hx; rfl))
        simpa [List.map_map, Function.comp_def] using this
      · simp only [Builtin.firstCells, Sem.run_pure, Nat.mul_one]
        congr 1
        apply Array.ext'
        simp [ByteArray.data_extract, List.extract_eq_take_drop]
    · simp at hv
  · simp at hv
end
end Go.Proofs.Ytbnemkdkeaiaoaa
