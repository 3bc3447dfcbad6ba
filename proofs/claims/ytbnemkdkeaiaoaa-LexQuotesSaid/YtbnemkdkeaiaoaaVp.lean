/- The walk's operations on virtual values, second part: slices, fields, indexes, literals. Over any program. -/
import Derived.Test.YtbnemkdkeaiaoaaVo
namespace Go.Proofs.Ytbnemkdkeaiaoaa
open Go Go.RowKit
set_option linter.unusedSimpArgs false
set_option linter.unusedVariables false
section
variable {P : Program} {B : World} {M : Nat → Prop} {Z : Nat → Prop} {ρ : Nat → Option (Nat × Nat)} {w : World} {H : Heap}

/-- A bound of a slice expression: no more than y; d where it is left out. -/
def vbound (x : Option VV) (y d : Nat) : Option Nat := match x with
  | none => some d
  | some (.sc (.int _ i)) => if 0 ≤ i ∧ i ≤ (y : Int) then some i.toNat else none
  | _ => none
theorem run_sliceBound {k : IntKind} {i : Int} {y y' : Nat} (h : 0 ≤ i ∧ i ≤ (y : Int)) (hy : y ≤ y') (c : BoundsCode) (w : World) : (Instr.sliceBound (.int k i) y' c).run P w = .ok i.toNat w := by
  have h' : 0 ≤ i ∧ i ≤ (y' : Int) := ⟨h.1, by omega⟩
  simp only [Instr.sliceBound, asIntOf, Sem.run_bind, Sem.run_pure, Result.andThen_ok]
  rw [if_pos h']
  simp
/-- The bounds of a slice expression: low, high, and the third where it stands. -/
def vbounds (n c : Nat) (lo hi mx : Option VV) : Option (Nat × Nat × Option Nat) :=
  match mx with
  | none => match vbound hi c n with
    | some h => match vbound lo h 0 with
      | some l => some (l, h, none)
      | none => none
    | none => none
  | some x => match vbound (some x) c 0, hi with
    | some m, some y => match vbound (some y) m 0 with
      | some h => match vbound lo h 0 with
        | some l => some (l, h, some m)
        | none => none
      | none => none
    | _, _ => none
def ORelO (w : World) (Z : Nat → Prop) (ρ : Nat → Option (Nat × Nat)) : Option VV → Option Value → Prop
  | none, none => True
  | some a, some b => VRel w Z ρ a b
  | _, _ => False
theorem vbound_rel {x : Option VV} {x' : Option Value} {y d r : Nat} (h : vbound x y d = some r) (hx : ORelO w Z ρ x x') :
    (x = none ∧ x' = none ∧ r = d) ∨ ∃ k i, x' = some (.int k i) ∧ 0 ≤ i ∧ i ≤ (y : Int) ∧ r = i.toNat := by
  cases x with
  | none =>
    cases x' with
    | none => simp [vbound] at h; exact .inl ⟨rfl, rfl, h.symm⟩
    | some b => exact hx.elim
  | some a =>
    cases x' with
    | none => exact hx.elim
    | some b =>
      have hx' : VRel w Z ρ a b := hx
      cases a with
      | sc u =>
        cases u with
        | int k i =>
          simp only [vbound] at h
          split at h
          · rename_i hc
            simp at h
            cases hx'
            exact .inr ⟨k, i, rfl, hc.1, hc.2, h.symm⟩
          · simp at h
        | _ => simp [vbound] at h
      | _ => simp [vbound] at h
theorem run_bounds {isS : Bool} {n c c' : Nat} {lo hi mx : Option VV} {lo' hi' mx' : Option Value} {l h : Nat} {m : Option Nat} (hb : vbounds n c lo hi mx = some (l, h, m)) (hc : c ≤ c') (hnc : n ≤ c)
    (hlo : ORelO w Z ρ lo lo') (hhi : ORelO w Z ρ hi hi') (hmx : ORelO w Z ρ mx mx') :
    ∃ m', (∀ W : World, (Instr.sliceBounds isS n c' lo' hi' mx').run P W = .ok (l, h, m') W) ∧ l ≤ h ∧ h ≤ m' ∧ m' ≤ c' ∧ (m = none → m' = c' ∧ h ≤ c) ∧ (∀ k, m = some k → m' = k ∧ k ≤ c) := by
  unfold vbounds at hb
  split at hb
  · cases mx' with
    | some b => exact hmx.elim
    | none =>
      split at hb
      · rename_i h0 hh
        split at hb
        · rename_i l0 hl
          simp at hb
          obtain ⟨rfl, rfl, rfl⟩ := hb
          have hle : l0 ≤ h0 := by
            rcases vbound_rel hl hlo with ⟨_, _, rfl⟩ | ⟨k, i, _, h1, h2, rfl⟩ <;> omega
          have hhc : h0 ≤ c := by
            rcases vbound_rel hh hhi with ⟨_, _, rfl⟩ | ⟨k, i, _, h1, h2, rfl⟩ <;> omega
          refine ⟨c', fun W => ?_, hle, by omega, Nat.le_refl _, fun _ => ⟨rfl, hhc⟩, fun k e => by cases e⟩
          rcases vbound_rel hh hhi with ⟨_, rfl, rfl⟩ | ⟨k, i, rfl, h1, h2, rfl⟩
          · rcases vbound_rel hl hlo with ⟨_, rfl, rfl⟩ | ⟨k2, i2, rfl, g1, g2, rfl⟩
            · simp [Instr.sliceBounds]
            · simp [Instr.sliceBounds, run_sliceBound ⟨g1, g2⟩ (Nat.le_refl _)]
          · rcases vbound_rel hl hlo with ⟨_, rfl, rfl⟩ | ⟨k2, i2, rfl, g1, g2, rfl⟩
            · simp [Instr.sliceBounds, run_sliceBound ⟨h1, h2⟩ hc]
            · simp [Instr.sliceBounds, run_sliceBound ⟨h1, h2⟩ hc, run_sliceBound ⟨g1, g2⟩ (Nat.le_refl _)]
        · simp at hb
      · simp at hb
  · rename_i x
    split at hb
    · rename_i m0 y hm
      split at hb
      · rename_i h0 hh
        split at hb
        · rename_i l0 hl
          simp at hb
          obtain ⟨rfl, rfl, rfl⟩ := hb
          have hle : l0 ≤ h0 := by
            rcases vbound_rel hl hlo with ⟨_, _, rfl⟩ | ⟨k, i, _, h1, h2, rfl⟩ <;> omega
          rcases vbound_rel hm hmx with ⟨h3, _⟩ | ⟨k1, i1, rfl, f1, f2, rfl⟩
          · cases h3
          rcases vbound_rel hh hhi with ⟨h3, _⟩ | ⟨k2, i2, rfl, e1, e2, rfl⟩
          · cases h3
          refine ⟨i1.toNat, fun W => ?_, hle, by omega, by omega, (fun e => by cases e), (fun k e => by cases e; exact ⟨rfl, by omega⟩)⟩
          rcases vbound_rel hl hlo with ⟨_, rfl, rfl⟩ | ⟨k3, i3, rfl, g1, g2, rfl⟩
          · simp [Instr.sliceBounds, run_sliceBound ⟨f1, f2⟩ hc, run_sliceBound ⟨e1, e2⟩ (Nat.le_refl _)]
          · simp [Instr.sliceBounds, run_sliceBound ⟨f1, f2⟩ hc, run_sliceBound ⟨e1, e2⟩ (Nat.le_refl _), run_sliceBound ⟨g1, g2⟩ (Nat.le_refl _)]
        · simp at hb
      · simp at hb
    · simp at hb

/-- A slice expression over a slice, or over an array's address. -/
def vslice (P : Program) (t : TypeId) (x : VV) (lo hi mx : Option VV) : Option VV :=
  match P.underlying t with
  | some (.slice e) => match vsize P e with
    | some z => match x with
      | .sl b o n c z' => match vbounds n (c.getD n) lo hi mx with
        | some (l, h, some m) => some (.sl b (if m = l then o else o + l * z) (h - l) (some (m - l)) z)
        | some (l, h, none) => match c with
          | some c => some (.sl b (if c = l then o else o + l * z) (h - l) (some (c - l)) z)
          | none => if z' = z then (if l = 0 then some (.sl b o h none z) else if h = l then some (.ro 0 []) else some (.sl b (o + l * z) (h - l) none z)) else none
        | none => none
      | .ro n vs => match vbounds n n lo hi mx with
        | some (l, h, _) => some (.ro (h - l) ((vs.drop (l * z)).take ((h - l) * z)))
        | none => none
      | _ => none
    | none => none
  | some (.array nn e) => match vsize P e, x with
    | some z, .ptr b o => match vbounds nn nn lo hi mx with
      | some (l, h, m) => some (.sl b (if m.getD nn = l then o else o + l * z) (h - l) (some (m.getD nn - l)) z)
      | none => none
    | _, _ => none
  | _ => none
theorem vslice_sound (h : Rel B M Z ρ H w) {t : TypeId} {x v : VV} {x' : Value} {lo hi mx : Option VV} {lo' hi' mx' : Option Value} (hx : VRel w Z ρ x x') (hlo : ORelO w Z ρ lo lo') (hhi : ORelO w Z ρ hi hi') (hmx : ORelO w Z ρ mx mx')
    (hv : vslice P t x lo hi mx = some v) : Does P B M H.next Z ρ w (Instr.sliceAt t x' lo' hi' mx') v H := by
  unfold vslice at hv
  split at hv
  · rename_i e hu
    split at hv
    · rename_i z hz
      have hrun : ∀ (a : Option Addr) (n c' l hh m' : Nat), (∀ W : World, (Instr.sliceBounds true n c' lo' hi' mx').run P W = .ok (l, hh, m') W) →
          (Instr.sliceAt t (.slice a n c') lo' hi' mx').run P w = .ok (.slice (if m' = l then a else a.map (·.add (l * z))) (hh - l) (m' - l)) w := by
        intro a n c' l hh m' hr
        simp [Instr.sliceAt, Instr.slice, run_underlying hu, hr, run_sizeOf hz]
      split at hv
      · rename_i b o n c z'
        cases hx with
        | @sl _ _ _ k N c' _ _ hk hn hc hzz =>
          have hcc : c.getD n ≤ c' ∧ n ≤ c.getD n := by
            cases c with
            | none => exact ⟨hn, Nat.le_refl _⟩
            | some q => have := hc q rfl; subst this; exact ⟨Nat.le_refl _, hn⟩
          split at hv
          · rename_i l hh m hb
            obtain ⟨m', hr, h1, h2, h3, _, h5⟩ := run_bounds (isS := true) (P := P) hb hcc.1 hcc.2 hlo hhi hmx
            obtain ⟨rfl, _⟩ := h5 m rfl
            simp at hv
            subst hv
            refine Does.same h (hrun _ _ _ _ _ _ hr) ?_
            by_cases hm : m' = l
            · simp only [hm, if_true]
              exact .sl hk (by omega) (fun q e => by cases e; rfl) (fun e => by cases e)
            · simp only [hm, if_false, Option.map_some, add_mk]
              exact .sl hk (by omega) (fun q e => by cases e; rfl) (fun e => by cases e)
          · rename_i l hh hb
            obtain ⟨m', hr, h1, h2, h3, h4, _⟩ := run_bounds (isS := true) (P := P) hb hcc.1 hcc.2 hlo hhi hmx
            obtain ⟨rfl, h6⟩ := h4 rfl
            cases c with
            | some c0 =>
              have := hc c0 rfl
              subst this
              simp at hv
              subst hv
              refine Does.same h (hrun _ _ _ _ _ _ hr) ?_
              by_cases hm : m' = l
              · simp only [hm, if_true]
                exact .sl hk (by omega) (fun q e => by cases e; rfl) (fun e => by cases e)
              · simp only [hm, if_false, Option.map_some, add_mk]
                exact .sl hk (by omega) (fun q e => by cases e; rfl) (fun e => by cases e)
            | none =>
              simp only at hv
              split at hv
              · rename_i hze
                subst hze
                have hzz := hzz rfl
                split at hv
                · rename_i hl0
                  subst hl0
                  simp at hv
                  subst hv
                  refine Does.same h (hrun _ _ _ _ _ _ hr) ?_
                  simp only [Nat.zero_mul, Option.map_some, add_mk, Nat.add_zero, ite_self, Nat.sub_zero]
                  exact .sl hk (by omega) (fun q e => by cases e) (fun _ => hzz)
                · split at hv
                  · rename_i hl
                    subst hl
                    simp at hv
                    subst hv
                    refine Does.same h (hrun _ _ _ _ _ _ hr) ?_
                    rw [Nat.sub_self]
                    exact .ro0
                  · rename_i hl0 hl
                    simp at hv
                    subst hv
                    refine Does.same h (hrun _ _ _ _ _ _ hr) ?_
                    have hm : ¬ m' = l := by omega
                    simp only [hm, if_false, Option.map_some, add_mk]
                    refine .sl hk (by omega) (fun q e => by cases e) (fun _ => ?_)
                    have : l * z' + (m' - l) * z' = m' * z' := by rw [← Nat.add_mul]; congr 1; omega
                    omega
              · simp at hv
          · simp at hv
      · rename_i n vs
        split at hv
        · rename_i l hh m hb
          simp at hv
          subst hv
          cases hx with
          | @ro _ k o c' _ cs hZ hn hlen hcell hrel =>
            obtain ⟨m', hr, h1, h2, h3, h4, h5⟩ := run_bounds (isS := true) (P := P) hb hn (Nat.le_refl _) hlo hhi hmx
            refine Does.same h (hrun _ _ _ _ _ _ hr) ?_
            by_cases hl : hh = l
            · subst hl
              simp only [Nat.sub_self, Nat.zero_mul, List.take_zero]
              exact .ro0
            · have hm : ¬ m' = l := by omega
              simp only [hm, if_false, Option.map_some, add_mk]
              have hp : Pw (VRel w Z ρ) ((vs.drop (l * z)).take ((hh - l) * z)) ((cs.drop (l * z)).take ((hh - l) * z)) := (Pw.drop ⟨hlen, hrel⟩ _).take _
              refine .ro hZ (by omega) hp.1 (fun i hi => ?_) hp.2
              have hi' : i < (hh - l) * z := by simp at hi; omega
              rw [List.getElem?_take_of_lt hi', List.getElem?_drop, Nat.add_assoc]
              exact hcell _ (by simp at hi; omega)
          | @ro0 a c' =>
            obtain ⟨m', hr, h1, h2, h3, h4, h5⟩ := run_bounds (isS := true) (P := P) hb (Nat.zero_le _) (Nat.le_refl _) hlo hhi hmx
            refine Does.same h (hrun _ _ _ _ _ _ hr) ?_
            have hh0 : hh = 0 := by
              cases m with
              | none => have := (h4 rfl).2; omega
              | some q => have := h5 q rfl; omega
            have hl0 : l = 0 := by omega
            subst hh0 hl0
            simp only [Nat.sub_self, Nat.zero_mul, List.take_zero]
            exact .ro0
        · simp at hv
      · simp at hv
    · simp at hv
  · rename_i nn e hu
    split at hv
    · rename_i z b o hz
      split at hv
      · rename_i l hh m hb
        simp at hv
        subst hv
        cases hx with
        | @ptr _ _ k N hk =>
          obtain ⟨m', hr, h1, h2, h3, h4, h5⟩ := run_bounds (isS := false) (P := P) hb (Nat.le_refl _) (Nat.le_refl _) hlo hhi hmx
          have hm : m' = m.getD nn := by
            cases m with
            | none => exact (h4 rfl).1
            | some q => exact (h5 q rfl).1
          refine Does.same h (v' := .slice (some (if m' = l then ⟨k, o, none⟩ else ⟨k, o + l * z, none⟩)) (hh - l) (m' - l)) (by simp [Instr.sliceAt, run_underlying hu, Instr.sureAddr, hr, run_sizeOf hz, add_mk]) ?_
          rw [← hm]
          by_cases hml : m' = l
          · simp only [hml, if_true]
            exact .sl hk (by omega) (fun q e => by cases e; rfl) (fun e => by cases e)
          · simp only [hml, if_false]
            exact .sl hk (by omega) (fun q e => by cases e; rfl) (fun e => by cases e)
      · simp at hv
    · simp at hv
  · simp at hv

/-- The address of a field. -/
def vfieldAddr (P : Program) (s : TypeId) (x : VV) (i : Nat) : Option VV := match P.underlying s with
  | some (.struct fs) => match fs[i]? with
    | some f => match vsize P f.type with
      | some (_ + 1) => match x with
        | .ptr b o => some (.ptr b (o + f.offset))
        | .rp vs o => some (.rp vs (o + f.offset))
        | _ => none
      | _ => none
    | none => none
  | _ => none
theorem vfieldAddr_sound (h : Rel B M Z ρ H w) {s : TypeId} {x v : VV} {x' : Value} {i : Nat} (hx : VRel w Z ρ x x') (hv : vfieldAddr P s x i = some v) : Does P B M H.next Z ρ w (Instr.fieldAt s x' i) v H := by
  unfold vfieldAddr at hv
  split at hv
  · rename_i fs hu
    split at hv
    · rename_i f hf
      split at hv
      · rename_i q hz
        split at hv
        · simp at hv
          subst hv
          cases hx with
          | ptr hk => refine Does.same h ?_ (.ptr hk); simp [Instr.fieldAt, run_underlying hu, hf, Instr.sureAddr, fieldPlace, run_sizeOf hz, add_mk]
        · simp at hv
          subst hv
          cases hx with
          | rp hZ hlen hcell hrel => refine Does.same h ?_ (.rp hZ hlen hcell hrel); simp [Instr.fieldAt, run_underlying hu, hf, Instr.sureAddr, fieldPlace, run_sizeOf hz, add_mk, Nat.add_assoc]
        · simp at hv
      · simp at hv
    · simp at hv
  · simp at hv
/-- The address of an element. -/
def vindexAddr (P : Program) (t : TypeId) (x ix : VV) : Option VV := match ix with
  | .sc (.int _ i) => match P.underlying t with
    | some (.slice e) => match vsize P e with
      | some z => match x with
        | .sl b o n _ _ => if 0 ≤ i ∧ i < (n : Int) then some (.ptr b (o + i.toNat * z)) else none
        | .ro n vs => if 0 ≤ i ∧ i < (n : Int) then some (.rp vs (i.toNat * z)) else none
        | .gs b n _ => if 0 ≤ i ∧ i < (n : Int) then some (.ptr b (i.toNat * z)) else none
        | _ => none
      | none => none
    | some (.array n e) => match vsize P e with
      | some z => match x with
        | .ptr b o => if 0 ≤ i ∧ i < (n : Int) then some (.ptr b (o + i.toNat * z)) else none
        | .rp vs o => if 0 ≤ i ∧ i < (n : Int) then some (.rp vs (o + i.toNat * z)) else none
        | _ => none
      | none => none
    | _ => none
  | _ => none
theorem vindexAddr_sound (h : Rel B M Z ρ H w) {t : TypeId} {x ix v : VV} {x' ix' : Value} (hx : VRel w Z ρ x x') (hix : VRel w Z ρ ix ix') (hv : vindexAddr P t x ix = some v) : Does P B M H.next Z ρ w (Instr.indexAt t x' ix') v H := by
  unfold vindexAddr at hv
  split at hv
  · rename_i k i
    cases hix with
    | sc _ =>
      split at hv
      · rename_i e hu
        split at hv
        · rename_i z hz
          split at hv
          · split at hv
            · rename_i hc
              simp at hv
              subst hv
              cases hx with
              | sl hk hn hcc hzz => refine Does.same h ?_ (.ptr hk); simp [Instr.indexAt, asIntOf, run_underlying hu, hc, run_sizeOf hz, add_mk]
            · simp at hv
          · split at hv
            · rename_i hc
              simp at hv
              subst hv
              cases hx with
              | ro hZ hn hlen hcell hrel => refine Does.same h ?_ (.rp hZ hlen hcell hrel); simp [Instr.indexAt, asIntOf, run_underlying hu, hc, run_sizeOf hz, add_mk]
              | ro0 => omega
            · simp at hv
          · split at hv
            · rename_i hc
              simp at hv
              subst hv
              cases hx with
              | gs0 => omega
              | gs hk hn hzz h0 => refine Does.same h ?_ (.ptr hk); simp [Instr.indexAt, asIntOf, run_underlying hu, hc, run_sizeOf hz, add_mk]
            · simp at hv
          · simp at hv
        · simp at hv
      · rename_i n e hu
        split at hv
        · rename_i z hz
          split at hv
          · split at hv
            · rename_i hc
              simp at hv
              subst hv
              cases hx with
              | ptr hk => refine Does.same h ?_ (.ptr hk); simp [Instr.indexAt, asIntOf, run_underlying hu, Instr.sureAddr, hc, run_sizeOf hz, add_mk]
            · simp at hv
          · split at hv
            · rename_i hc
              simp at hv
              subst hv
              cases hx with
              | rp hZ hlen hcell hrel => refine Does.same h ?_ (.rp hZ hlen hcell hrel); simp [Instr.indexAt, asIntOf, run_underlying hu, Instr.sureAddr, hc, run_sizeOf hz, add_mk, Nat.add_assoc]
            · simp at hv
          · simp at hv
        · simp at hv
      · simp at hv
  · simp at hv
/-- A part of a struct or an array that is a value. -/
def vpart (P : Program) (t : TypeId) (vs : List VV) (o : Nat) : Option VV := match vagg P t with
  | some true => match vsize P t with
    | some n => some (.ag ((vs.drop o).take n))
    | none => none
  | some false => vs[o]?
  | none => none
theorem vpart_sound {t : TypeId} {vs : List VV} {cs : Array Value} (hp : Pw (VRel w Z ρ) vs cs.toList) {o : Nat} {v : VV} (hv : vpart P t vs o = some v) : ∃ v', (part t cs o).run P w = .ok v' w ∧ VRel w Z ρ v v' := by
  unfold vpart at hv
  split at hv
  · rename_i ha
    split at hv
    · rename_i n hn
      simp at hv
      subst hv
      refine ⟨.agg (cs.extract o (o + n)), by simp [part, run_isAgg ha, run_sizeOf hn], .ag' ?_⟩
      simp only [Array.toList_extract, List.extract_eq_take_drop]
      rw [show o + n - o = n by omega]
      exact (hp.drop o).take n
    · simp at hv
  · rename_i ha
    obtain ⟨c, hc, hr⟩ := hp.get hv
    have : cs[o]? = some c := by simpa using hc
    exact ⟨c, by simp [part, run_isAgg ha, this], hr⟩
  · simp at hv
def vfield (P : Program) (s : TypeId) (x : VV) (i : Nat) : Option VV := match P.underlying s, x with
  | some (.struct fs), .ag vs => match fs[i]? with
    | some f => vpart P f.type vs f.offset
    | none => none
  | _, _ => none
theorem vfield_sound (h : Rel B M Z ρ H w) {s : TypeId} {x v : VV} {x' : Value} {i : Nat} (hx : VRel w Z ρ x x') (hv : vfield P s x i = some v) : Does P B M H.next Z ρ w (Instr.field s x' i) v H := by
  unfold vfield at hv
  split at hv
  · rename_i fs vs hu
    split at hv
    · rename_i f hf
      cases hx with
      | ag h1 r1 =>
        obtain ⟨v', g1, g2⟩ := vpart_sound (P := P) ⟨h1, r1⟩ hv
        exact Does.same h (by simp [Instr.field, run_underlying hu, hf, asAgg, g1]) g2
    · simp at hv
  · simp at hv
def vindex (P : Program) (t : TypeId) (x ix : VV) : Option VV := match P.underlying t, x, ix with
  | some (.array n e), .ag vs, .sc (.int _ i) => match vsize P e with
    | some z => if 0 ≤ i ∧ i < (n : Int) then vpart P e vs (i.toNat * z) else none
    | none => none
  | _, _, _ => none
theorem vindex_sound (h : Rel B M Z ρ H w) {t : TypeId} {x ix v : VV} {x' ix' : Value} (hx : VRel w Z ρ x x') (hix : VRel w Z ρ ix ix') (hv : vindex P t x ix = some v) : Does P B M H.next Z ρ w (Instr.index t x' ix') v H := by
  unfold vindex at hv
  split at hv
  · rename_i n e vs k i hu
    split at hv
    · rename_i z hz
      split at hv
      · rename_i hc
        cases hix with
        | sc _ =>
          cases hx with
          | ag h1 r1 =>
            obtain ⟨v', g1, g2⟩ := vpart_sound (P := P) ⟨h1, r1⟩ hv
            exact Does.same h (by simp [Instr.index, asIntOf, run_underlying hu, hc, run_sizeOf hz, g1]) g2
      · simp at hv
    · simp at hv
  · simp at hv
def vextract (x : VV) (i : Nat) : Option VV := match x with
  | .tp vs => vs[i]?
  | _ => none
theorem vextract_sound (h : Rel B M Z ρ H w) {x v : VV} {x' : Value} {i : Nat} (hx : VRel w Z ρ x x') (hv : vextract x i = some v) : Does P B M H.next Z ρ w (Instr.extract x' i) v H := by
  unfold vextract at hv
  split at hv
  · cases hx with
    | @tp _ cs h1 r1 =>
      obtain ⟨c, hc, hr⟩ := Pw.get (R := VRel w Z ρ) ⟨h1, r1⟩ hv
      have : cs[i]? = some c := by simpa using hc
      exact Does.same h (by simp [Instr.extract, this]) hr
  · simp at hv
end
end Go.Proofs.Ytbnemkdkeaiaoaa
