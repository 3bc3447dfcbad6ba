/- Loops in which blocks get new names: at the end of each round they are called by the old ones. Over any program. -/
import Derived.Test.YtbnemkdkeaiaoaaV7
namespace Go.Proofs.Ytbnemkdkeaiaoaa
open Go Go.RowKit
set_option linter.unusedSimpArgs false
set_option linter.unusedVariables false
/-- What the old names stand for, the new ones do; names below t stay. -/
def Links (R : List (Nat × Nat)) (t : Nat) (ρ ρ1 : Nat → Option (Nat × Nat)) : Prop := (∀ b, b < t → ∀ c, ρ b = some c → ρ1 b = some c) ∧ ∀ p ∈ R, ∀ c, ρ p.1 = some c → ρ1 p.2 = some c
/-- u is v under the new names. -/
def RenV (R : List (Nat × Nat)) (t : Nat) (v u : VV) : Prop := ∀ (w : World) (Z : Nat → Prop) (ρ ρ1 : Nat → Option (Nat × Nat)) (y : Value), Links R t ρ ρ1 → VRel w Z ρ v y → VRel w Z ρ1 u y
section
variable {R : List (Nat × Nat)} {t : Nat}
theorem RenV.junk {v : VV} : RenV R t v .junk := fun _ _ _ _ _ _ _ => .junk
theorem RenV.of {v : VV} (h : Nameless v) : RenV R t v v := fun w Z ρ ρ1 y _ hv => h w Z ρ ρ1 y hv
theorem RenV.sc {x : Value} : RenV R t (.sc x) (.sc x) := .of (nameless_sc x)
theorem RenV.undef : RenV R t (.tp []) (.tp []) := .of (nameless_tp (by simp))
theorem RenV.low {v : VV} (h : RenV [] t v v) : RenV R t v v := fun w Z ρ ρ1 y hl hv => h w Z ρ ρ1 y ⟨hl.1, fun p hp => by simp at hp⟩ hv
theorem RenV.ptr {b b' o : Nat} (h : (b, b') ∈ R) : RenV R t (.ptr b o) (.ptr b' o) := fun w Z ρ ρ1 y hl hv => by
  cases hv with
  | ptr h1 => exact .ptr (hl.2 _ h _ h1)
theorem RenV.ptrL {b o : Nat} (h : b < t) : RenV R t (.ptr b o) (.ptr b o) := fun w Z ρ ρ1 y hl hv => by
  cases hv with
  | ptr h1 => exact .ptr (hl.1 _ h _ h1)
theorem RenV.sl {b b' o n z : Nat} {c : Option Nat} (h : (b, b') ∈ R) : RenV R t (.sl b o n c z) (.sl b' o n c z) := fun w Z ρ ρ1 y hl hv => by
  cases hv with
  | sl h1 h2 h3 h4 => exact .sl (hl.2 _ h _ h1) h2 h3 h4
theorem RenV.slL {b o n z : Nat} {c : Option Nat} (h : b < t) : RenV R t (.sl b o n c z) (.sl b o n c z) := fun w Z ρ ρ1 y hl hv => by
  cases hv with
  | sl h1 h2 h3 h4 => exact .sl (hl.1 _ h _ h1) h2 h3 h4
theorem RenV.gs {b b' n z : Nat} (h : (b, b') ∈ R) : RenV R t (.gs b n z) (.gs b' n z) := fun w Z ρ ρ1 y hl hv => by
  cases hv with
  | gs0 => exact .gs0
  | gs h1 h2 h3 h4 => exact .gs (hl.2 _ h _ h1) h2 h3 h4
theorem RenV.gsE {b b' n n' z : Nat} (h : (b, b') ∈ R) (e : n = n') : RenV R t (.gs b n z) (.gs b' n' z) := by subst e; exact .gs h
theorem RenV.gsL {b n z : Nat} (h : b < t) : RenV R t (.gs b n z) (.gs b n z) := fun w Z ρ ρ1 y hl hv => by
  cases hv with
  | gs0 => exact .gs0
  | gs h1 h2 h3 h4 => exact .gs (hl.1 _ h _ h1) h2 h3 h4
/-- nil. -/
theorem RenV.gsN {b z : Nat} : RenV R t (.sc (.slice none 0 0)) (.gs b 0 z) := fun w Z ρ ρ1 y hl hv => by
  cases hv with
  | sc _ => exact .gs0
/-- A slice that was known to be there. -/
theorem RenV.gsS {b b' n n' z : Nat} (h : (b, b') ∈ R) (e : n = n') (h0 : n ≠ 0) : RenV R t (.sl b 0 n none z) (.gs b' n' z) := fun w Z ρ ρ1 y hl hv => by
  subst e
  cases hv with
  | sl h1 h2 h3 h4 => exact .gs (hl.2 _ h _ h1) h2 (by have := h4 rfl; omega) h0
/-- One without room. -/
theorem RenV.gsZ {b b' z : Nat} : RenV R t (.sl b 0 0 (some 0) z) (.gs b' 0 z) := fun w Z ρ ρ1 y hl hv => by
  cases hv with
  | sl h1 h2 h3 h4 =>
    have := h3 0 rfl
    subst this
    exact .gs0
theorem RenV.yl {l l' : Nat} (h : (l, l') ∈ R) : RenV R t (.yl l) (.yl l') := fun w Z ρ ρ1 y hl hv => by
  cases hv with
  | yl h1 => exact .yl (hl.2 _ h _ h1)
theorem RenV.ylL {l : Nat} (h : l < t) : RenV R t (.yl l) (.yl l) := fun w Z ρ ρ1 y hl hv => by
  cases hv with
  | yl h1 => exact .yl (hl.1 _ h _ h1)
inductive RenL (R : List (Nat × Nat)) (t : Nat) : List VV → List VV → Prop
  | nil : RenL R t [] []
  | cons {v u : VV} {r s : List VV} (h : RenV R t v u) (k : RenL R t r s) : RenL R t (v :: r) (u :: s)
theorem RenL.of : ∀ {vs : List VV}, (∀ v ∈ vs, Nameless v) → RenL R t vs vs
  | [], _ => .nil
  | v :: r, h => .cons (.of (h v (by simp))) (RenL.of fun u hu => h u (by simp [hu]))
theorem RenL.pw {w : World} {Z : Nat → Prop} {ρ ρ1 : Nat → Option (Nat × Nat)} (hl : Links R t ρ ρ1) {vs us : List VV} (h : RenL R t vs us) : ∀ {cs : List Value}, Pw (VRel w Z ρ) vs cs → Pw (VRel w Z ρ1) us cs := by
  induction h with
  | nil => intro cs hp; exact ⟨hp.1, fun i u c hu => by simp at hu⟩
  | @cons v u r s hvu _ ih =>
    intro cs hp
    match cs, hp with
    | c :: ct, hp =>
      have h0 := hp.2 0 v c rfl rfl
      have ht : Pw (VRel w Z ρ) r ct := ⟨by have := hp.1; simpa using this, fun i u c hu hc => hp.2 (i + 1) u c (by simpa using hu) (by simpa using hc)⟩
      exact Pw.cons (hvu w Z ρ ρ1 c hl h0) (ih ht)
    | [], hp => have := hp.1; simp at this
theorem RenL.pre {w : World} {Z : Nat → Prop} {ρ ρ1 : Nat → Option (Nat × Nat)} (hl : Links R t ρ ρ1) {vs us : List VV} (h : RenL R t vs us) : ∀ {cs : List Value}, Pre (VRel w Z ρ) vs cs → Pre (VRel w Z ρ1) us cs := by
  induction h with
  | nil => intro cs hp i u hu; simp at hu
  | @cons v u r s hvu _ ih =>
    intro cs hp i x hx
    obtain ⟨c, hc, h0⟩ := hp 0 v rfl
    match cs, hc with
    | c' :: ct, hc =>
      injection hc with hc
      subst hc
      cases i with
      | zero =>
        injection hx with hx
        subst hx
        exact ⟨_, rfl, hvu w Z ρ ρ1 _ hl h0⟩
      | succ i =>
        refine ih (cs := ct) (fun j y hy => ?_) i x hx
        obtain ⟨c2, h2, h3⟩ := hp (j + 1) y hy
        exact ⟨c2, h2, h3⟩
theorem RenV.tp {vs us : List VV} (h : RenL R t vs us) : RenV R t (.tp vs) (.tp us) := fun w Z ρ ρ1 y hl hv => by
  cases hv with
  | @tp _ cs h1 r1 => exact .tp' (h.pw hl ⟨h1, r1⟩)
theorem RenV.ag {vs us : List VV} (h : RenL R t vs us) : RenV R t (.ag vs) (.ag us) := fun w Z ρ ρ1 y hl hv => by
  cases hv with
  | @ag _ cs h1 r1 => exact .ag' (h.pw hl ⟨h1, r1⟩)
theorem RenV.fn {f : Fn} {vs us vs' us' : List VV} (h : RenL R t vs vs') (g : RenL R t us us') : RenV R t (.fn f vs us) (.fn f vs' us') := fun w Z ρ ρ1 y hl hv => by
  cases hv with
  | @fn _ _ _ cs ds h1 r1 h2 r2 =>
    have a := h.pw hl ⟨h1, r1⟩
    have b := g.pw hl ⟨h2, r2⟩
    exact .fn a.1 a.2 b.1 b.2
theorem RenV.rp {vs us : List VV} {o : Nat} (h : RenL R t vs us) : RenV R t (.rp vs o) (.rp us o) := fun w Z ρ ρ1 y hl hv => by
  cases hv with
  | rp hZ hlen hcell hrel =>
    have a := h.pw hl ⟨hlen, hrel⟩
    exact .rp hZ a.1 hcell a.2
theorem RenV.ifc {ty : TypeId} {v u : VV} (h : RenV R t v u) : RenV R t (.ifc ty v) (.ifc ty u) := fun w Z ρ ρ1 y hl hv => by
  cases hv with
  | ifc h1 => exact .ifc (h _ _ _ _ _ hl h1)
/-- Objects. -/
inductive RenO (R : List (Nat × Nat)) (t : Nat) : VObj → VObj → Prop
  | cells {rw : Bool} {vs us : List VV} (h : RenL R t vs us) : RenO R t (.cells rw vs) (.cells rw us)
  | loop {vs us : List VV} {ps : List Tmp} {asg bd : Code} {st : LoopState} {pe : Option Code} {d d' : Nat} (h : RenL R t vs us) (hd : (d < t ∧ d' = d) ∨ (d, d') ∈ R) : RenO R t (.loop vs ps asg bd st pe d) (.loop us ps asg bd st pe d')
  | defs : RenO R t .defs .defs
  | opt {vs us : List VV} (h : RenL R t vs us) : RenO R t (.opt vs) (.opt us)
  | toOpt {vs us : List VV} (h : RenL R t vs us) : RenO R t (.cells true vs) (.opt us)
  | raw {ty : TypeId} {vs : List Value} {n : Option Nat} : RenO R t (.raw ty vs n) (.raw ty vs n)
theorem RenO.orel {w : World} {Z : Nat → Prop} {ρ ρ1 : Nat → Option (Nat × Nat)} (hl : Links R t ρ ρ1) {x y : VObj} (h : RenO R t x y) {N : Nat} {o : Obj} (g : ORel w Z ρ N x o) : ORel w Z ρ1 N y o := by
  cases h with
  | cells h =>
    obtain ⟨cs, ty, fr, h0, h4, h2, h3⟩ := g
    exact ⟨cs, ty, fr, h0, h4, h.pre hl h2, h3⟩
  | opt h =>
    obtain ⟨cs, ty, fr, h0, h4, h2, h3⟩ := g
    exact ⟨cs, ty, fr, h0, h4, h.pre hl h2, h3⟩
  | toOpt h =>
    obtain ⟨cs, ty, fr, h0, h4, h2, h3⟩ := g
    exact ⟨cs, ty, fr, h0, h4, h.pre hl h2, h3⟩
  | loop h hd =>
    obtain ⟨fn, ts, D, h0, h1, N', h2⟩ := g
    refine ⟨fn, ts, D, h0, h.pw hl h1, N', ?_⟩
    rcases hd with ⟨h5, rfl⟩ | h5
    · exact hl.1 _ h5 _ h2
    · exact hl.2 _ h5 _ h2
  | defs => exact g
  | raw => exact g
theorem RenL.len {vs us : List VV} (h : RenL R t vs us) : vs.length = us.length := by
  induction h with
  | nil => rfl
  | cons _ _ ih => simp [ih]
theorem RenO.ghost {x y : VObj} (h : RenO R t x y) (hx : x.ghost = true) : y.ghost = true := by
  cases h with
  | opt h => cases h with
    | nil => rfl
    | cons _ _ => cases hx
  | _ => cases hx
theorem RenO.rw {x y : VObj} (h : RenO R t x y) : y.rw = x.rw := by cases h <;> rfl
/-- The name that a block had. -/
def srcN : List (Nat × Nat) → Nat → Option Nat
  | [], _ => none
  | (a, b) :: r, x => match Nat.beq b x with
    | true => some a
    | false => srcN r x
def srcOf (R : List (Nat × Nat)) (t b : Nat) : Option Nat := match Nat.blt b t with
  | true => some b
  | false => srcN R b
/-- Each new name stands once in the list, not below t, below n. -/
def wfR (t n : Nat) : List (Nat × Nat) → Bool
  | [] => true
  | (_, b) :: r => Nat.ble t b && Nat.blt b n && (srcN r b).isNone && wfR t n r
/-- The blocks of the list, one by one, under their new names. -/
inductive RenH (R : List (Nat × Nat)) (t : Nat) (H : Heap) : List (Nat × VObj) → List Nat → Prop
  | nil : RenH R t H [] []
  | cons {b a : Nat} {x y : VObj} {r : List (Nat × VObj)} {l : List Nat} (h1 : srcOf R t b = some a) (h2 : H.get a = some x) (h3 : RenO R t x y) (k : RenH R t H r l) : RenH R t H ((b, y) :: r) (a :: l)
  | ghost {b : Nat} {r : List (Nat × VObj)} {l : List Nat} (h1 : srcOf R t b = none) (k : RenH R t H r l) : RenH R t H ((b, .opt []) :: r) l
def nodupB : List Nat → Bool
  | [] => true
  | a :: r => (r.all fun b => !Nat.beq a b) && nodupB r
def FitR (R : List (Nat × Nat)) (t : Nat) : List (Nat × VV) → List VV → Prop
  | [], _ => True
  | (k, v) :: r, ts => (∃ u, ts[k]? = some u ∧ RenV R t u v) ∧ FitR R t r ts
/-- The state is, under new names, one of which this much is kept. -/
structure KeptR (t : Nat) (l : List (Nat × VV)) (n : Nat) (O : List (Nat × VObj)) (nx : Nat) (m : List Nat) (s : VSt) : Prop where
  len : s.tmps.length = n
  marks : s.marks = m
  mlt : (m.all fun d => Nat.blt d t) = true
  rest : ∃ (R : List (Nat × Nat)) (ks : List Nat), (wfR t nx R && nodupB ks && Nat.ble t nx && O.all fun p => Nat.blt p.1 nx) = true ∧ FitR R t l s.tmps ∧ RenH R t s.heap O ks
theorem blt_iff {a b : Nat} : Nat.blt a b = true ↔ a < b := by
  unfold Nat.blt
  exact ⟨fun h => Nat.le_of_ble_eq_true h, fun h => Nat.ble_eq_true_of_le h⟩
theorem srcN_mem {a b : Nat} : ∀ {R : List (Nat × Nat)}, srcN R b = some a → (a, b) ∈ R
  | [], h => by simp [srcN] at h
  | (x, y) :: r, h => by
    unfold srcN at h
    rcases beq_cases y b with ⟨h1, e⟩ | ⟨h1, e⟩
    · simp [h1] at h; subst h e; simp
    · simp [h1] at h; exact List.mem_cons_of_mem _ (srcN_mem h)
theorem wfR_src {n : Nat} : ∀ {R : List (Nat × Nat)}, wfR t n R = true → ∀ p ∈ R, t ≤ p.2 ∧ p.2 < n ∧ srcN R p.2 = some p.1
  | [], _, p, hp => by simp at hp
  | (x, y) :: r, h, p, hp => by
    simp only [wfR, Bool.and_eq_true] at h
    obtain ⟨⟨⟨h1, h2⟩, h3⟩, h4⟩ := h
    have h1 := Nat.le_of_ble_eq_true h1
    have h2 : y < n := blt_iff.1 h2
    rcases List.mem_cons.1 hp with rfl | hp
    · exact ⟨h1, h2, by simp [srcN, Nat.beq_refl]⟩
    · obtain ⟨g1, g2, g3⟩ := wfR_src h4 p hp
      refine ⟨g1, g2, ?_⟩
      unfold srcN
      rcases beq_cases y p.2 with ⟨q1, e⟩ | ⟨q1, e⟩
      · rw [← e] at g3; rw [g3] at h3; simp at h3
      · simp [q1, g3]
theorem RenH.get {H : Heap} {O : List (Nat × VObj)} {ks : List Nat} (h : RenH R t H O ks) : ∀ {b : Nat} {y : VObj}, hget O b = some y → (srcOf R t b = none ∧ y.ghost = true ∧ (b, y) ∈ O) ∨ ∃ a x, srcOf R t b = some a ∧ H.get a = some x ∧ RenO R t x y ∧ a ∈ ks ∧ (b, y) ∈ O := by
  induction h with
  | nil => intro b y hy; simp [hget] at hy
  | @cons b a x y r l h1 h2 h3 _ ih =>
    intro b' y' hy
    rw [hget_cons] at hy
    split at hy
    · rename_i e
      injection hy with hy
      subst e hy
      exact .inr ⟨a, x, h1, h2, h3, by simp, by simp⟩
    · rcases ih hy with ⟨g1, g2, g3⟩ | ⟨a', x', g1, g2, g3, g4, g5⟩
      · exact .inl ⟨g1, g2, List.mem_cons_of_mem _ g3⟩
      exact .inr ⟨a', x', g1, g2, g3, List.mem_cons_of_mem _ g4, List.mem_cons_of_mem _ g5⟩
  | @ghost b r l h1 _ ih =>
    intro b' y' hy
    rw [hget_cons] at hy
    split at hy
    · rename_i e
      injection hy with hy
      subst e hy
      exact .inl ⟨h1, rfl, by simp⟩
    · rcases ih hy with ⟨g1, g2, g3⟩ | ⟨a', x', g1, g2, g3, g4, g5⟩
      · exact .inl ⟨g1, g2, List.mem_cons_of_mem _ g3⟩
      exact .inr ⟨a', x', g1, g2, g3, g4, List.mem_cons_of_mem _ g5⟩
theorem RenH.getK {H : Heap} {O : List (Nat × VObj)} {ks : List Nat} (h : RenH R t H O ks) {b c : Nat} {y : VObj} (hy : hget O b = some y) (hc : srcOf R t b = some c) : ∃ a x, srcOf R t b = some a ∧ H.get a = some x ∧ RenO R t x y ∧ a ∈ ks ∧ (b, y) ∈ O := by
  rcases h.get hy with ⟨g, _⟩ | g
  · rw [g] at hc; cases hc
  · exact g
theorem RenH.inj {H : Heap} {O : List (Nat × VObj)} {ks : List Nat} (h : RenH R t H O ks) : nodupB ks = true → ∀ {b b' a : Nat} {y y' : VObj}, hget O b = some y → hget O b' = some y' → srcOf R t b = some a → srcOf R t b' = some a → b = b' := by
  induction h with
  | nil => intro _ b b' a y y' hy; simp [hget] at hy
  | @cons b0 a0 x0 y0 r l h1 h2 h3 hr ih =>
    intro hn b b' a y y' hy hy' ha ha'
    simp only [nodupB, Bool.and_eq_true] at hn
    have out : ∀ {c : Nat} {z : VObj}, Go.Proofs.Ytbnemkdkeaiaoaa.hget r c = some z → srcOf R t c = some a0 → False := fun {c z} hz hc => by
      obtain ⟨a', x', g1, g2, g3, g4, _⟩ := hr.getK hz hc
      rw [hc] at g1; injection g1 with g1; subst g1
      have := List.all_eq_true.1 hn.1 _ g4
      simp [Nat.beq_refl] at this
    rw [hget_cons] at hy hy'
    split at hy
    · rename_i e
      split at hy'
      · rename_i e'; exact e.symm.trans e'
      · subst e
        rw [h1] at ha; injection ha with ha; subst ha
        exact (out hy' ha').elim
    · split at hy'
      · rename_i e'
        subst e'
        rw [h1] at ha'; injection ha' with ha'; subst ha'
        exact (out hy ha).elim
      · exact ih hn.2 hy hy' ha ha'
  | @ghost b0 r l h1 hr ih =>
    intro hn b b' a y y' hy hy' ha ha'
    rw [hget_cons] at hy hy'
    split at hy
    · rename_i e
      subst e
      rw [h1] at ha; cases ha
    · split at hy'
      · rename_i e'
        subst e'
        rw [h1] at ha'; cases ha'
      · exact ih hn hy hy' ha ha'
theorem srcOf_lt {b : Nat} (h : b < t) : srcOf R t b = some b := by
  have : Nat.blt b t = true := blt_iff.2 h
  simp [srcOf, this]
theorem srcOf_ge {b : Nat} (h : t ≤ b) : srcOf R t b = srcN R b := by
  have : Nat.blt b t = false := by
    cases hh : Nat.blt b t
    · rfl
    · have : b < t := blt_iff.1 hh
      omega
  simp [srcOf, this]
theorem lookR_cases : ∀ (l : List (Nat × VV)) (ts : List VV) (i : Nat), FitR R t l ts → lookT l i = .junk ∨ ∃ u, ts[i]? = some u ∧ RenV R t u (lookT l i)
  | [], _, _, _ => .inl rfl
  | (k, v) :: r, ts, i, h => by
    simp only [lookT]
    split
    · rename_i hk
      exact .inr (Nat.eq_of_beq_eq_true hk ▸ h.1)
    · exact lookR_cases r ts i h.2
variable {P : Program}
theorem KeptR.sound {B w : World} {M Z : Nat → Prop} {ρ : Nat → Option (Nat × Nat)} {l : List (Nat × VV)} {n nx : Nat} {O : List (Nat × VObj)} {m : List Nat} {s : VSt} {a : Act} (h : KeptR t l n O nx m s) (hr : Rel B M Z ρ s.heap w) (ha : ARel w Z ρ s a) :
    ∃ ρ1, t ≤ nx ∧ (∀ b, b < t → ρ1 b = ρ b) ∧ Rel B M Z ρ1 ⟨O, nx⟩ w ∧ ARel w Z ρ1 ⟨frameT l n 0, ⟨O, nx⟩, m⟩ a := by
  obtain ⟨h1, h2, h3, R, ks, h4, h5, h6⟩ := h
  simp only [Bool.and_eq_true] at h4
  obtain ⟨⟨⟨k1, k2⟩, k3⟩, k4⟩ := h4
  have k3 := Nat.le_of_ble_eq_true k3
  refine ⟨fun b => (srcOf R t b).bind ρ, k3, fun b hb => by simp only [srcOf_lt hb, Option.bind_some], ?_, ?_⟩
  case refine_1 =>
    have hl : Links R t ρ (fun b => (srcOf R t b).bind ρ) := ⟨fun b hb c hc => by simp only [srcOf_lt hb, Option.bind_some]; exact hc, fun p hp c hc => by
      obtain ⟨g1, g2, g3⟩ := wfR_src k1 p hp
      simp only [srcOf_ge g1, g3, Option.bind_some]
      exact hc⟩
    refine ⟨hr.glob, hr.os, hr.tape, hr.output, hr.size, hr.frame, fun b hb => ?_, fun b x hx => ?_, ?_, ?_, hr.zlt⟩
    · have hb : nx ≤ b := hb
      show (srcOf R t b).bind ρ = none
      rw [srcOf_ge (by omega)]
      cases hs : srcN R b with
      | none => rfl
      | some a =>
        have := (wfR_src k1 _ (srcN_mem hs)).2.1
        simp only at this
        omega
    · have g5 : (b, x) ∈ O := by
        rcases h6.get hx with ⟨_, _, g⟩ | ⟨a, x0, g1, g2, g3, g4, g5⟩
        · exact g
        · exact g5
      have := List.all_eq_true.1 k4 _ g5
      exact blt_iff.1 this
    · intro b b' k N N' x x' hx hx' hb hb'
      obtain ⟨c, hc, _⟩ := Option.bind_eq_some_iff.1 hb
      obtain ⟨c', hc', _⟩ := Option.bind_eq_some_iff.1 hb'
      obtain ⟨a, x0, g1, g2, g3, g4, _⟩ := h6.getK hx hc
      obtain ⟨a', x0', g1', g2', g3', g4', _⟩ := h6.getK hx' hc'
      simp only [g1, g1', Option.bind_some] at hb hb'
      have := hr.inj a a' k N N' x0 x0' g2 g2' hb hb'
      subst this
      exact h6.inj k2 hx hx' g1 g1'
    · intro b x hx
      rcases h6.get hx with ⟨g1, g2, _⟩ | ⟨a, x0, g1, g2, g3, g4, _⟩
      · exact .inl ⟨g2, by simp only [g1, Option.bind_none]⟩
      rcases hr.obj a x0 g2 with ⟨q1, q2⟩ | ⟨k, N, o, q1, q2, q3, q4, q5⟩
      · exact .inl ⟨g3.ghost q1, by simp only [g1, Option.bind_some]; exact q2⟩
      exact .inr ⟨k, N, o, by simp only [g1, Option.bind_some]; exact q1, q2, g3.orel hl q3, q4, fun h => q5 (by rw [← g3.rw]; exact h)⟩
  case refine_2 =>
    have hl : Links R t ρ (fun b => (srcOf R t b).bind ρ) := ⟨fun b hb c hc => by simp only [srcOf_lt hb, Option.bind_some]; exact hc, fun p hp c hc => by
      obtain ⟨g1, g2, g3⟩ := wfR_src k1 p hp
      simp only [srcOf_ge g1, g3, Option.bind_some]
      exact hc⟩
    refine ⟨⟨?_, ?_⟩, ?_⟩
    · simp only [frameT_length]
      rw [← h1]
      exact ha.tmps.1
    · intro i u x hu hx
      simp only [frameT_get] at hu
      split at hu
      · simp at hu
        rcases lookR_cases l s.tmps i h5 with e | ⟨v, hv, e⟩
        · rw [← hu, e]; exact .junk
        · rw [← hu]; exact e _ _ _ _ _ hl (ha.tmps.2 i v x hv hx)
      · simp at hu
    · have hm := ha.marks
      rw [h2] at hm
      have key : ∀ (m : List Nat) (ds : List Deferred), (m.all fun d => Nat.blt d t) = true → DRel ρ m ds → DRel (fun b => (srcOf R t b).bind ρ) m ds := by
        intro m
        induction m with
        | nil => intro ds _ h; cases ds <;> exact h
        | cons d r ih =>
          intro ds hlt h
          cases ds with
          | nil => exact h
          | cons x s =>
            simp only [List.all_cons, Bool.and_eq_true] at hlt
            obtain ⟨⟨D, N, e1, e2⟩, e3⟩ := h
            exact ⟨⟨D, N, hl.1 d (blt_iff.1 hlt.1) _ e1, e2⟩, ih _ hlt.2 e3⟩
      exact key _ _ h3 hm
/-- A loop whose blocks are renamed behind each round. -/
theorem GWP.loopR {r : Option Nat} {c : Code} {Q : Exit → VSt → Prop} {s : VSt} {α : Type} (I : α → Prop) (L : α → List (Nat × VV)) (O : α → List (Nat × VObj)) (nx : Nat) (m : List Nat) (n : Nat) (μ : α → Nat) (a : α) (hI : I a) (h0 : KeptR s.heap.next (L a) n (O a) nx m s)
    (hr : ∀ a, I a → forceT (frameT (L a) n 0) fun ts => wcode P r c (thenQ (fun s' => Done (∃ b, I b ∧ μ b < μ a ∧ KeptR s.heap.next (L b) n (O b) nx m s')) Q) ⟨ts, ⟨O a, nx⟩, m⟩) : GWP P r (.loop c) Q s := ⟨fun B M Z ρ a0 w rr QE g0 g1 g2 g3 => by
  have key : ∀ (k : Nat) (b : α) (Z1 : Nat → Prop) (ρ1 : Nat → Option (Nat × Nat)) (a1 : Act) (w1 : World), μ b < k → I b → Ext (own B M) s.heap.next Z ρ w nx Z1 ρ1 w1 → Rel B M Z1 ρ1 ⟨O b, nx⟩ w1 → ARel w1 Z1 ρ1 ⟨frameT (L b) n 0, ⟨O b, nx⟩, m⟩ a1 → Code.roundsIn (FW rr) 0 P c QE k a1 w1 := by
    intro k
    induction k with
    | zero => intro b Z1 ρ1 a1 w1 hm; omega
    | succ k ih =>
      intro b Z1 ρ1 a1 w1 hm hb e1 r1 ar1
      rw [roundsIn_succ]
      have hh := hr b hb
      rw [forceT_eq] at hh
      refine wcode_sound hh B M Z1 ρ1 a1 w1 rr _ (g0.ext e1) r1 ar1 fun e s2 Z2 ρ2 a2 w2 q e2 r2 ar2 => ?_
      cases e with
      | normal =>
        obtain ⟨b2, q1, q2, q3⟩ := q.out
        obtain ⟨ρ3, p1, p2, p3, p4⟩ := q3.sound r2 ar2
        refine ih b2 Z2 ρ3 a2 w2 (by omega) q1 ?_ p3 p4
        have e12 := e1.trans e2
        exact ⟨p1, fun x hx => (p2 x hx).trans (e12.rold x hx), e12.zsub, fun x y hx => by
          have hlt : x < s.heap.next := by
            rcases Nat.lt_or_ge x s.heap.next with h | h
            · exact h
            · rw [g1.dom x h] at hx; cases hx
          rw [p2 x hlt]; exact e12.rsub x y hx, e12.keep, e12.size, e12.znew⟩
      | _ => exact g3 _ _ _ _ _ _ q (e1.trans e2) r2 ar2
  obtain ⟨ρ3, p1, p2, p3, p4⟩ := h0.sound g1 g2
  refine wpIn_loop_rounds (μ a + 1) (key _ a Z ρ3 a0 w (Nat.lt_succ_self _) hI ?_ p3 p4)
  exact ⟨p1, fun x hx => p2 x hx, fun _ h => h, fun x y hx => by
    have hlt : x < s.heap.next := by
      rcases Nat.lt_or_ge x s.heap.next with h | h
      · exact h
      · rw [g1.dom x h] at hx; cases hx
    rw [p2 x hlt]; exact hx, fun _ _ => rfl, Nat.le_refl _, fun _ h => .inl h⟩⟩
end
end Go.Proofs.Ytbnemkdkeaiaoaa
