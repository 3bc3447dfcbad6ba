/- Loops, told by what changes: temporaries and blocks that aren't named stay. Over any program. -/
import Derived.Test.YtbnemkdkeaiaoaaV9
namespace Go.Proofs.Ytbnemkdkeaiaoaa
open Go Go.RowKit
set_option linter.unusedSimpArgs false
set_option linter.unusedVariables false
section
variable {t : Nat} {w : World} {Z : Nat → Prop} {ρ : Nat → Option (Nat × Nat)}
/-- A value that stands for something where names from t on stand for nothing names what lies below t. -/
theorem low_of {v : VV} {y : Value} (h : VRel w Z ρ v y) (hd : ∀ b, t ≤ b → ρ b = none) : RenV [] t v v := by
  have lt : ∀ {b : Nat} {c : Nat × Nat}, ρ b = some c → b < t := fun {b c} hb => by
    rcases Nat.lt_or_ge b t with h | h
    · exact h
    · rw [hd b h] at hb; cases hb
  have row : ∀ {vs : List VV} {cs : List Value}, vs.length = cs.length → (∀ (i : Nat) (u : VV) (c : Value), vs[i]? = some u → cs[i]? = some c → RenV [] t u u) → RenL [] t vs vs := by
    intro vs
    induction vs with
    | nil => intro cs _ _; exact .nil
    | cons v r ih =>
      intro cs hl hh
      match cs, hl with
      | c :: ct, hl => exact .cons (hh 0 v c rfl rfl) (ih (cs := ct) (by simpa using hl) fun i u c hu hc => hh (i + 1) u c (by simpa using hu) (by simpa using hc))
      | [], hl => simp at hl
  induction h with
  | sc h => exact .sc
  | ptr h => exact .ptrL (lt h)
  | sl h hn hc hz => exact .slL (lt h)
  | gs0 =>
    intro w' Z' ρ' ρ1 y' hl hv
    cases hv with
    | gs0 => exact .gs0
    | gs h1 h2 h3 h4 => exact absurd rfl h4
  | gs h hn hz h0 => exact .gsL (lt h)
  | ro hZ hn hlen hcell _ ih =>
    intro w' Z' ρ' ρ1 y' hl hv
    have hr := row hlen ih
    cases hv with
    | ro a b c d e =>
      have := hr.pw hl ⟨c, e⟩
      exact .ro a b this.1 d this.2
    | ro0 => exact .ro0
  | ro0 =>
    intro w' Z' ρ' ρ1 y' hl hv
    cases hv with
    | ro a b c d e => exact .ro a b c d fun i u c hu => by simp at hu
    | ro0 => exact .ro0
  | rp hZ hlen hcell _ ih => exact .rp (row hlen ih)
  | fn h1 _ h2 _ i1 i2 => exact .fn (row h1 i1) (row h2 i2)
  | yl h => exact .ylL (lt h)
  | ag h1 _ ih => exact .ag (row h1 ih)
  | tp h1 _ ih => exact .tp (row h1 ih)
  | ifc _ ih => exact .ifc ih
  | junk => exact .junk
theorem lowL_of {vs : List VV} {cs : List Value} (h : Pw (VRel w Z ρ) vs cs) (hd : ∀ b, t ≤ b → ρ b = none) : RenL [] t vs vs := by
  induction vs generalizing cs with
  | nil => exact .nil
  | cons v r ih =>
    match cs, h with
    | c :: ct, h => exact .cons (low_of (h.2 0 v c rfl rfl) hd) (ih (cs := ct) ⟨by simpa using h.1, fun i u c hu hc => h.2 (i + 1) u c (by simpa using hu) (by simpa using hc)⟩)
    | [], h => have := h.1; simp at this
theorem lowP_of {vs : List VV} {cs : List Value} (h : Pre (VRel w Z ρ) vs cs) (hd : ∀ b, t ≤ b → ρ b = none) : RenL [] t vs vs := by
  induction vs generalizing cs with
  | nil => exact .nil
  | cons v r ih =>
    obtain ⟨c, hc, h0⟩ := h 0 v rfl
    match cs, hc with
    | c' :: ct, hc =>
      simp at hc
      subst hc
      exact .cons (low_of h0 hd) (ih (cs := ct) fun i u hu => h (i + 1) u (by simpa using hu))
theorem RenL.low {R : List (Nat × Nat)} {vs us : List VV} (h : RenL [] t vs us) : RenL R t vs us := by
  induction h with
  | nil => exact .nil
  | cons h _ ih => exact .cons (fun w Z ρ ρ1 y hl hv => h w Z ρ ρ1 y ⟨hl.1, fun p hp => by simp at hp⟩ hv) ih
/-- An object names what lies below t. -/
def LowO (t : Nat) (x : VObj) : Prop := match x with
  | .cells _ vs => RenL [] t vs vs
  | .opt vs => RenL [] t vs vs
  | .loop tmps _ _ _ _ _ d => RenL [] t tmps tmps ∧ d < t
  | .defs => True
  | .gone => True
  | .raw _ _ _ => True
theorem lowO_of {x : VObj} {N : Nat} {o : Obj} (h : ORel w Z ρ N x o) (hd : ∀ b, t ≤ b → ρ b = none) : LowO t x := by
  cases x with
  | cells rw vs =>
    obtain ⟨cs, ty, fr, _, _, h2, _⟩ := h
    exact lowP_of h2 hd
  | opt vs =>
    obtain ⟨cs, ty, fr, _, _, h2, _⟩ := h
    exact lowP_of h2 hd
  | loop tmps ps asg bd st pe d =>
    obtain ⟨fn, ts, D, _, h1, N', h2⟩ := h
    refine ⟨lowL_of h1 hd, ?_⟩
    rcases Nat.lt_or_ge d t with h | h
    · exact h
    · rw [hd d h] at h2; cases h2
  | _ => trivial
end
section
variable {t nx : Nat} {R : List (Nat × Nat)} {B w : World} {M Z : Nat → Prop} {ρ : Nat → Option (Nat × Nat)}
/-- The world under new names. -/
theorem ren_sound {O : List (Nat × VObj)} {m : List Nat} {s : VSt} {ts : List VV} {a : Act} (k1 : wfR t nx R = true) (k3 : t ≤ nx) (hr : Rel B M Z ρ s.heap w) (ha : ARel w Z ρ s a) (hm : s.marks = m) (hmlt : ∀ d ∈ m, d < t)
    (hlen : ts.length = s.tmps.length) (hts : ∀ (i : Nat) (u : VV), ts[i]? = some u → u = .junk ∨ ∃ v, s.tmps[i]? = some v ∧ RenV R t v u)
    (hO : ∀ (b : Nat) (y : VObj), hget O b = some y → b < nx ∧ ((srcOf R t b = none ∧ y.ghost = true) ∨ ∃ (a : Nat) (x : VObj), srcOf R t b = some a ∧ s.heap.get a = some x ∧ y.rw = x.rw ∧ (x.ghost = true → y.ghost = true) ∧ ∀ (ρ1 : Nat → Option (Nat × Nat)), Links R t ρ ρ1 → ∀ (N : Nat) (o : Obj), ORel w Z ρ N x o → ORel w Z ρ1 N y o))
    (hinj : ∀ (b b' a : Nat) (y y' : VObj), hget O b = some y → hget O b' = some y' → srcOf R t b = some a → srcOf R t b' = some a → b = b') :
    ∃ ρ1, (∀ b, b < t → ρ1 b = ρ b) ∧ Rel B M Z ρ1 ⟨O, nx⟩ w ∧ ARel w Z ρ1 ⟨ts, ⟨O, nx⟩, m⟩ a := by
  have hl : Links R t ρ (fun b => (srcOf R t b).bind ρ) := ⟨fun b hb c hc => by simp only [srcOf_lt hb, Option.bind_some]; exact hc, fun p hp c hc => by
    obtain ⟨g1, g2, g3⟩ := wfR_src k1 p hp
    simp only [srcOf_ge g1, g3, Option.bind_some]
    exact hc⟩
  refine ⟨fun b => (srcOf R t b).bind ρ, fun b hb => by simp only [srcOf_lt hb, Option.bind_some], ?_, ?_⟩
  · refine ⟨hr.glob, hr.os, hr.tape, hr.output, hr.size, hr.frame, fun b hb => ?_, fun b x hx => (hO b x hx).1, ?_, ?_, hr.zlt⟩
    · have hb : nx ≤ b := hb
      show (srcOf R t b).bind ρ = none
      rw [srcOf_ge (by omega)]
      cases hs : srcN R b with
      | none => rfl
      | some a =>
        have := (wfR_src k1 _ (srcN_mem hs)).2.1
        simp only at this
        omega
    · intro b b' k N N' x x' hx hx' hb hb'
      obtain ⟨c, hc, _⟩ := Option.bind_eq_some_iff.1 hb
      obtain ⟨c', hc', _⟩ := Option.bind_eq_some_iff.1 hb'
      obtain ⟨a, x0, g1, g2, _⟩ := (hO b x hx).2.resolve_left (fun g => by rw [g.1] at hc; cases hc)
      obtain ⟨a', x0', g1', g2', _⟩ := (hO b' x' hx').2.resolve_left (fun g => by rw [g.1] at hc'; cases hc')
      simp only [g1, g1', Option.bind_some] at hb hb'
      have := hr.inj a a' k N N' x0 x0' g2 g2' hb hb'
      subst this
      exact hinj b b' a x x' hx hx' g1 g1'
    · intro b x hx
      rcases (hO b x hx).2 with ⟨g1, g2⟩ | ⟨a, x0, g1, g2, g3, g6, g4⟩
      · exact .inl ⟨g2, by simp only [g1, Option.bind_none]⟩
      rcases hr.obj a x0 g2 with ⟨q1, q2⟩ | ⟨k, N, o, q1, q2, q3, q4, q5⟩
      · exact .inl ⟨g6 q1, by simp only [g1, Option.bind_some]; exact q2⟩
      exact .inr ⟨k, N, o, by simp only [g1, Option.bind_some]; exact q1, q2, g4 _ hl _ _ q3, q4, fun h => q5 (by rw [← g3]; exact h)⟩
  · refine ⟨⟨hlen.trans ha.tmps.1, ?_⟩, ?_⟩
    · intro i u x hu hx
      rcases hts i u hu with rfl | ⟨v, hv, e⟩
      · exact .junk
      · exact e _ _ _ _ _ hl (ha.tmps.2 i v x hv hx)
    · have hmm := ha.marks
      rw [hm] at hmm
      have key : ∀ (m : List Nat) (ds : List Deferred), (∀ d ∈ m, d < t) → DRel ρ m ds → DRel (fun b => (srcOf R t b).bind ρ) m ds := by
        intro m
        induction m with
        | nil => intro ds _ h; cases ds <;> exact h
        | cons d r ih =>
          intro ds hlt h
          cases ds with
          | nil => exact h
          | cons x s =>
            obtain ⟨⟨D, N, e1, e2⟩, e3⟩ := h
            exact ⟨⟨D, N, hl.1 d (hlt d (by simp)) _ e1, e2⟩, ih _ (fun d hd => hlt d (by simp [hd])) e3⟩
      exact key _ _ hmlt hmm
/-- The temporaries ahead of a round: those of the list as told; those that are written in a round and not told: nothing is known; the others as they were. -/
def hasK : List (Nat × VV) → Nat → Bool
  | [], _ => false
  | (k, _) :: r, i => match Nat.beq k i with
    | true => true
    | false => hasK r i
def frameA (A : List Nat) (L : List (Nat × VV)) : List VV → Nat → List VV
  | [], _ => []
  | v :: r, i => (match hasK L i with
    | true => lookT L i
    | false => match memN i A with
      | true => .junk
      | false => v) :: frameA A L r (i + 1)
/-- What isn't told and not written: the same. -/
def maskA (A : List Nat) (L : List (Nat × VV)) : List VV → Nat → List VV
  | [], _ => []
  | v :: r, i => (match hasK L i with
    | true => .junk
    | false => match memN i A with
      | true => .junk
      | false => v) :: maskA A L r (i + 1)
theorem frameA_len (A : List Nat) (L : List (Nat × VV)) : ∀ (ts : List VV) (i : Nat), (frameA A L ts i).length = ts.length
  | [], _ => rfl
  | _ :: r, i => by simp [frameA, frameA_len A L r]
theorem maskA_len (A : List Nat) (L : List (Nat × VV)) : ∀ (ts : List VV) (i : Nat), (maskA A L ts i).length = ts.length
  | [], _ => rfl
  | _ :: r, i => by simp [maskA, maskA_len A L r]
theorem frameA_get (A : List Nat) (L : List (Nat × VV)) : ∀ (ts : List VV) (i j : Nat), (frameA A L ts i)[j]? = (ts[j]?).map fun v => match hasK L (i + j) with
    | true => lookT L (i + j)
    | false => match memN (i + j) A with
      | true => .junk
      | false => v
  | [], i, j => by simp [frameA]
  | v :: r, i, 0 => by simp [frameA]
  | v :: r, i, j + 1 => by
    simp only [frameA, List.getElem?_cons_succ]
    rw [frameA_get A L r (i + 1) j, show i + 1 + j = i + (j + 1) by omega]
theorem maskA_get (A : List Nat) (L : List (Nat × VV)) : ∀ (ts : List VV) (i j : Nat), (maskA A L ts i)[j]? = (ts[j]?).map fun v => match hasK L (i + j) with
    | true => .junk
    | false => match memN (i + j) A with
      | true => .junk
      | false => v
  | [], i, j => by simp [maskA]
  | v :: r, i, 0 => by simp [maskA]
  | v :: r, i, j + 1 => by
    simp only [maskA, List.getElem?_cons_succ]
    rw [maskA_get A L r (i + 1) j, show i + 1 + j = i + (j + 1) by omega]
def restO (D : List Nat) : List (Nat × VObj) → List (Nat × VObj)
  | [] => []
  | (k, x) :: r => match memN k D with
    | true => restO D r
    | false => (k, x) :: restO D r
def Gets (H : Heap) : List (Nat × VObj) → Prop
  | [] => True
  | (k, x) :: r => H.get k = some x ∧ Gets H r
theorem Gets.get {H : Heap} : ∀ {F : List (Nat × VObj)}, Gets H F → ∀ {b : Nat} {x : VObj}, hget F b = some x → H.get b = some x ∧ b ∈ F.map (·.1)
  | [], _, b, x, hx => by simp [hget] at hx
  | (k, y) :: r, h, b, x, hx => by
    rw [hget_cons] at hx
    split at hx
    · rename_i e
      injection hx with hx
      subst e hx
      exact ⟨h.1, by simp⟩
    · obtain ⟨g1, g2⟩ := Gets.get h.2 hx
      exact ⟨g1, List.mem_cons_of_mem _ g2⟩
theorem restO_get {D : List Nat} {H : Heap} : ∀ {F : List (Nat × VObj)}, Gets H (restO D F) → True := fun _ => trivial
/-- The state at the end of a round. -/
structure KeptA (A D : List Nat) (L : List (Nat × VV)) (O : List (Nat × VObj)) (nx : Nat) (ts0 : List VV) (H0 : Heap) (m : List Nat) (s : VSt) : Prop where
  keep : maskA A L s.tmps 0 = maskA A L ts0 0
  marks : s.marks = m
  rest : Gets s.heap (restO D H0.objs)
  ren : ∃ (R : List (Nat × Nat)) (ks : List Nat), (wfR H0.next nx R && nodupB (ks ++ (restO D H0.objs).map (·.1)) && Nat.ble H0.next nx && O.all (fun p => Nat.blt p.1 nx) && (restO D H0.objs).all (fun p => Nat.blt p.1 H0.next)) = true ∧ FitR R H0.next L s.tmps ∧ RenH R H0.next s.heap O ks
theorem hasK_look : ∀ {L : List (Nat × VV)} {i : Nat} {ts : List VV}, FitR R t L ts → hasK L i = true → ∃ v, ts[i]? = some v ∧ RenV R t v (lookT L i)
  | [], i, ts, _, h => by simp [hasK] at h
  | (k, v) :: r, i, ts, hf, h => by
    simp only [hasK] at h
    simp only [lookT]
    rcases beq_cases k i with ⟨h1, e⟩ | ⟨h1, e⟩
    · subst e
      rw [h1]
      exact hf.1
    · rw [h1] at h ⊢
      exact hasK_look hf.2 h
theorem nodupB_app : ∀ {a b : List Nat}, nodupB (a ++ b) = true → nodupB a = true ∧ nodupB b = true ∧ ∀ x ∈ a, x ∈ b → False
  | [], b, h => ⟨rfl, h, fun x hx => by simp at hx⟩
  | k :: r, b, h => by
    simp only [List.cons_append, nodupB, Bool.and_eq_true, List.all_append] at h
    obtain ⟨⟨h1, h2⟩, h3⟩ := h
    obtain ⟨g1, g2, g3⟩ := nodupB_app h3
    refine ⟨by simp [nodupB, h1, g1], g2, fun x hx hb => ?_⟩
    rcases List.mem_cons.1 hx with rfl | hx
    · have := List.all_eq_true.1 h2 _ hb
      simp [Nat.beq_refl] at this
    · exact g3 x hx hb
variable {P : Program}
theorem KeptA.sound {A D : List Nat} {L : List (Nat × VV)} {O : List (Nat × VObj)} {ts0 : List VV} {H0 : Heap} {m : List Nat} {s : VSt} {a : Act} (h : KeptA A D L O nx ts0 H0 m s) (hlow : RenL [] H0.next ts0 ts0) (hlo : ∀ b x, H0.get b = some x → LowO H0.next x) (hlos : ∀ b x, hget (restO D H0.objs) b = some x → LowO H0.next x) (hmlt : ∀ d ∈ m, d < H0.next) (hr : Rel B M Z ρ s.heap w) (ha : ARel w Z ρ s a) :
    ∃ ρ1, H0.next ≤ nx ∧ (∀ b, b < H0.next → ρ1 b = ρ b) ∧ Rel B M Z ρ1 ⟨O ++ restO D H0.objs, nx⟩ w ∧ ARel w Z ρ1 ⟨frameA A L ts0 0, ⟨O ++ restO D H0.objs, nx⟩, m⟩ a := by
  obtain ⟨h1, h2, h3, R, ks, h4, h5, h6⟩ := h
  simp only [Bool.and_eq_true] at h4
  obtain ⟨⟨⟨⟨k1, k2⟩, k3⟩, k4⟩, k5⟩ := h4
  have k3 := Nat.le_of_ble_eq_true k3
  obtain ⟨n1, n2, n3⟩ := nodupB_app k2
  have hlen : ts0.length = s.tmps.length := by
    have := congrArg List.length h1
    simpa [maskA_len] using this.symm
  have lowAt : ∀ {vs : List VV} (hh : RenL [] H0.next vs vs) (i : Nat) (v : VV), vs[i]? = some v → RenV R H0.next v v := by
    intro vs
    induction vs with
    | nil => intro _ i v hv; simp at hv
    | cons u r ih =>
      intro hh i v hv
      cases hh with
      | cons a b =>
        cases i with
        | zero => simp at hv; subst hv; exact .low a
        | succ i => exact ih b i v (by simpa using hv)
  have hrest : ∀ b x, hget (restO D H0.objs) b = some x → b < H0.next ∧ s.heap.get b = some x ∧ b ∈ (restO D H0.objs).map (·.1) := fun b x hx => by
    obtain ⟨g1, g2⟩ := h3.get hx
    obtain ⟨p, hp, e⟩ := List.mem_map.1 g2
    have := List.all_eq_true.1 k5 p hp
    exact ⟨e ▸ blt_iff.1 this, g1, g2⟩
  have hget : ∀ b, hget (O ++ restO D H0.objs) b = _ := fun b => hget_app O (restO D H0.objs) b
  refine Exists.elim (ren_sound (t := H0.next) (nx := nx) (R := R) (O := O ++ restO D H0.objs) (m := m) (s := s) (ts := frameA A L ts0 0) (a := a) k1 k3 hr ha h2 hmlt (by rw [frameA_len, hlen]) ?_ ?_ ?_) (fun ρ1 ⟨p1, p2, p3⟩ => ⟨ρ1, k3, p1, p2, p3⟩)
  · intro i u hu
    rw [frameA_get, Nat.zero_add] at hu
    cases hv0 : ts0[i]? with
    | none => rw [hv0] at hu; simp at hu
    | some v0 =>
      rw [hv0] at hu
      simp only [Option.map_some, Option.some.injEq] at hu
      cases hk : hasK L i with
      | true =>
        rw [hk] at hu
        obtain ⟨v, e1, e2⟩ := hasK_look h5 hk
        exact .inr ⟨v, e1, hu ▸ e2⟩
      | false =>
        rw [hk] at hu
        cases hA : memN i A with
        | true => rw [hA] at hu; exact .inl hu.symm
        | false =>
          rw [hA] at hu
          simp only at hu
          subst hu
          have hi : i < s.tmps.length := by
            have := (List.getElem?_eq_some_iff.1 hv0).1
            omega
          have e := congrArg (fun l => l[i]?) h1
          simp only [maskA_get, Nat.zero_add, hv0, hk, hA, Option.map_some, List.getElem?_eq_getElem hi, Option.some.injEq] at e
          exact .inr ⟨v0, by rw [List.getElem?_eq_getElem hi, e], lowAt hlow i v0 hv0⟩
  · intro b y hy
    rw [hget] at hy
    cases ho : Go.Proofs.Ytbnemkdkeaiaoaa.hget O b with
    | some y' =>
      rw [ho] at hy
      injection hy with hy
      subst hy
      rcases h6.get ho with ⟨g1, g2, g5⟩ | ⟨a', x', g1, g2, g3, g4, g5⟩
      · exact ⟨blt_iff.1 (List.all_eq_true.1 k4 _ g5), .inl ⟨g1, g2⟩⟩
      exact ⟨blt_iff.1 (List.all_eq_true.1 k4 _ g5), .inr ⟨a', x', g1, g2, g3.rw, g3.ghost, fun ρ1 hl N o => g3.orel hl⟩⟩
    | none =>
      rw [ho] at hy
      obtain ⟨g1, g2, g3⟩ := hrest b y hy
      have hlo := hlos b y hy
      refine ⟨by omega, .inr ⟨b, y, srcOf_lt g1, g2, rfl, fun h => h, fun ρ1 hl N o hor => ?_⟩⟩
      cases y with
      | opt vs => exact RenO.orel hl (.opt (RenL.low hlo)) hor
      | cells rw vs => exact RenO.orel hl (.cells (RenL.low hlo)) hor
      | loop tmps ps asg bd st pe d => exact RenO.orel hl (.loop (RenL.low hlo.1) (.inl ⟨hlo.2, rfl⟩)) hor
      | defs => exact hor
      | gone => trivial
      | raw t vs n => exact hor
  · intro b b' a' y y' hy hy' hs hs'
    rw [hget] at hy hy'
    cases ho : Go.Proofs.Ytbnemkdkeaiaoaa.hget O b with
    | some z =>
      rw [ho] at hy
      cases ho' : Go.Proofs.Ytbnemkdkeaiaoaa.hget O b' with
      | some z' => exact h6.inj n1 ho ho' hs hs'
      | none =>
        rw [ho'] at hy'
        obtain ⟨g1, g2, g3⟩ := hrest b' y' hy'
        rw [srcOf_lt g1] at hs'
        injection hs' with hs'
        subst hs'
        obtain ⟨a2, x2, q1, q2, q3, q4, q5⟩ := h6.getK ho hs
        rw [hs] at q1
        injection q1 with q1
        subst q1
        exact (n3 _ q4 g3).elim
    | none =>
      rw [ho] at hy
      obtain ⟨g1, g2, g3⟩ := hrest b y hy
      rw [srcOf_lt g1] at hs
      injection hs with hs
      subst hs
      cases ho' : Go.Proofs.Ytbnemkdkeaiaoaa.hget O b' with
      | some z' =>
        obtain ⟨a2, x2, q1, q2, q3, q4, q5⟩ := h6.getK ho' hs'
        rw [hs'] at q1
        injection q1 with q1
        subst q1
        exact (n3 _ q4 g3).elim
      | none =>
        rw [ho'] at hy'
        obtain ⟨g1', g2', g3'⟩ := hrest b' y' hy'
        rw [srcOf_lt g1'] at hs'
        injection hs' with hs'
        exact hs'.symm
/-- A loop, told by what changes in it. A: temporaries that are written in it and not told; D: blocks that are no longer known, or told anew. -/
theorem GWP.loopA {r : Option Nat} {c : Code} {Q : Exit → VSt → Prop} {ts0 : List VV} {H0 : Heap} {m : List Nat} {α : Type} (A D : List Nat) (I : α → Prop) (L : α → List (Nat × VV)) (O : α → List (Nat × VObj)) (nx : Nat) (μ : α → Nat) (a : α) (hI : I a) (h0 : KeptA A D (L a) (O a) nx ts0 H0 m ⟨ts0, H0, m⟩)
    (hr : ∀ a, I a → forceT (frameA A (L a) ts0 0) fun ts => wcode P r c (thenQ (fun s' => Done (∃ b, I b ∧ μ b < μ a ∧ KeptA A D (L b) (O b) nx ts0 H0 m s')) Q) ⟨ts, ⟨O a ++ restO D H0.objs, nx⟩, m⟩) : GWP P r (.loop c) Q ⟨ts0, H0, m⟩ := ⟨fun B M Z ρ a0 w rr QE g0 g1 g2 g3 => by
  have g1' : Rel B M Z ρ H0 w := g1
  have hlow : RenL [] H0.next ts0 ts0 := lowL_of g2.tmps g1'.dom
  have hlo : ∀ b x, H0.get b = some x → LowO H0.next x := fun b x hx => by
    rcases g1'.obj b x hx with ⟨hg, _⟩ | ⟨k, N, o, _, _, h3, _⟩
    · unfold VObj.ghost at hg
      split at hg
      · exact RenL.nil
      · cases hg
    exact lowO_of h3 g1'.dom
  have hrs := h0.rest
  have hlos : ∀ b x, hget (restO D H0.objs) b = some x → LowO H0.next x := fun b x hx => hlo b x (hrs.get hx).1
  have hmlt : ∀ d ∈ m, d < H0.next := by
    have hm := g2.marks
    have key : ∀ (m : List Nat) (ds : List Deferred), DRel ρ m ds → ∀ d ∈ m, d < H0.next := by
      intro m
      induction m with
      | nil => intro ds _ d hd; simp at hd
      | cons x r ih =>
        intro ds h d hd
        cases ds with
        | nil => exact h.elim
        | cons y s =>
          obtain ⟨⟨D, N, e1, e2⟩, e3⟩ := h
          rcases List.mem_cons.1 hd with rfl | hd
          · rcases Nat.lt_or_ge d H0.next with h | h
            · exact h
            · rw [g1'.dom d h] at e1; cases e1
          · exact ih s e3 d hd
    exact key _ _ hm
  have key : ∀ (k : Nat) (b : α) (Z1 : Nat → Prop) (ρ1 : Nat → Option (Nat × Nat)) (a1 : Act) (w1 : World), μ b < k → I b → Ext (own B M) H0.next Z ρ w nx Z1 ρ1 w1 → Rel B M Z1 ρ1 ⟨O b ++ restO D H0.objs, nx⟩ w1 → ARel w1 Z1 ρ1 ⟨frameA A (L b) ts0 0, ⟨O b ++ restO D H0.objs, nx⟩, m⟩ a1 → Code.roundsIn (FW rr) 0 P c QE k a1 w1 := by
    intro k
    induction k with
    | zero => intro b Z1 ρ1 a1 w1 hm; omega
    | succ k ih =>
      intro b Z1 ρ1 a1 w1 hm hb e1 r1 ar1
      rw [roundsIn_succ]
      have hh := hr b hb
      rw [forceT_eq] at hh
      refine wcode_sound hh B M Z1 ρ1 a1 w1 rr _ (g0.ext e1) r1 ar1 fun e s2 Z2 ρ2 a2 w2 q e2 r2 ar2 => ?_
      cases e with
      | normal =>
        obtain ⟨b2, q1, q2, q3⟩ := q.out
        obtain ⟨ρ3, p1, p2, p3, p4⟩ := q3.sound hlow hlo hlos hmlt r2 ar2
        refine ih b2 Z2 ρ3 a2 w2 (by omega) q1 ?_ p3 p4
        have e12 := e1.trans e2
        exact ⟨p1, fun x hx => (p2 x hx).trans (e12.rold x hx), e12.zsub, fun x y hx => by
          have hlt : x < H0.next := by
            rcases Nat.lt_or_ge x H0.next with h | h
            · exact h
            · rw [g1'.dom x h] at hx; cases hx
          rw [p2 x hlt]; exact e12.rsub x y hx, e12.keep, e12.size, e12.znew⟩
      | _ => exact g3 _ _ _ _ _ _ q (e1.trans e2) r2 ar2
  obtain ⟨ρ3, p1, p2, p3, p4⟩ := h0.sound hlow hlo hlos hmlt g1 g2
  refine wpIn_loop_rounds (μ a + 1) (key _ a Z ρ3 a0 w (Nat.lt_succ_self _) hI ?_ p3 p4)
  exact ⟨p1, fun x hx => p2 x hx, fun _ h => h, fun x y hx => by
    have hlt : x < H0.next := by
      rcases Nat.lt_or_ge x H0.next with h | h
      · exact h
      · rw [g1'.dom x h] at hx; cases hx
    rw [p2 x hlt]; exact hx, fun _ _ => rfl, Nat.le_refl _, fun _ h => .inl h⟩⟩
end
def forceNL : List Nat → (List Nat → Prop) → Prop
  | [], K => K []
  | a :: r, K => forceNL r fun r' => K (a :: r')
theorem forceNL_eq : ∀ (l : List Nat) (K : List Nat → Prop), forceNL l K = K l
  | [], _ => rfl
  | a :: r, K => by simp only [forceNL, forceNL_eq r]
/-- The temporaries that code writes. -/
def dstL : List Oper → List Nat → List Nat
  | [], l => l
  | o :: r, l => match o.dst with
    | some d => d :: dstL r l
    | none => dstL r l
noncomputable def writesC (c : Code) : List Nat → List Nat :=
  Code.rec (motive := fun _ => List Nat → List Nat)
    (fun l => l)
    (fun _ ops _ l => dstL ops.toList l)
    (fun _ _ iha ihb l => iha (ihb l))
    (fun _ _ _ iha ihb l => iha (ihb l))
    (fun _ _ ih l => ih l)
    (fun _ ih l => ih l)
    (fun _ _ _ _ _ _ l => l)
    (fun _ l => l)
    (fun _ ih l => ih l)
    (fun _ l => l)
    (fun _ l => l)
    (fun l => l)
    (fun _ l => l)
    c
/-- A loop: what it writes is found out. -/
theorem GWP.loopB {P : Program} {r : Option Nat} {c : Code} {Q : Exit → VSt → Prop} {ts0 : List VV} {H0 : Heap} {m : List Nat} {α : Type} (D : List Nat) (I : α → Prop) (L : α → List (Nat × VV)) (O : α → List (Nat × VObj)) (nx : Nat) (μ : α → Nat) (a : α) (hI : I a)
    (h : forceNL (writesC c []) fun A => KeptA A D (L a) (O a) nx ts0 H0 m ⟨ts0, H0, m⟩ ∧ ∀ a, I a → forceT (frameA A (L a) ts0 0) fun ts => wcode P r c (thenQ (fun s' => Done (∃ b, I b ∧ μ b < μ a ∧ KeptA A D (L b) (O b) nx ts0 H0 m s')) Q) ⟨ts, ⟨O a ++ restO D H0.objs, nx⟩, m⟩) : GWP P r (.loop c) Q ⟨ts0, H0, m⟩ := by
  rw [forceNL_eq] at h
  exact GWP.loopA _ D I L O nx μ a hI h.1 h.2
def ksOf (R : List (Nat × Nat)) (t : Nat) : List (Nat × VObj) → List Nat
  | [] => []
  | (b, _) :: r => match srcOf R t b with
    | some a => a :: ksOf R t r
    | none => ksOf R t r
def RenG (R : List (Nat × Nat)) (t : Nat) (H : Heap) : List (Nat × VObj) → Prop
  | [] => True
  | (b, y) :: r => (match srcOf R t b with
    | some a => ∃ x, H.get a = some x ∧ RenO R t x y
    | none => y = .opt []) ∧ RenG R t H r
theorem RenG.toH {R : List (Nat × Nat)} {t : Nat} {H : Heap} : ∀ {O : List (Nat × VObj)}, RenG R t H O → RenH R t H O (ksOf R t O)
  | [], _ => .nil
  | (b, y) :: r, h => by
    obtain ⟨h1, h2⟩ := h
    have ih := RenG.toH h2
    cases hs : srcOf R t b with
    | none =>
      rw [hs] at h1
      simp only at h1
      subst h1
      simp only [ksOf, hs]
      exact .ghost hs ih
    | some a =>
      rw [hs] at h1
      obtain ⟨x, g1, g2⟩ := h1
      simp only [ksOf, hs]
      exact .cons hs g1 g2 ih
theorem KeptA.of {A D : List Nat} {L : List (Nat × VV)} {O : List (Nat × VObj)} {nx : Nat} {ts0 : List VV} {H0 : Heap} {m : List Nat} {s : VSt} (R : List (Nat × Nat)) (keep : maskA A L s.tmps 0 = maskA A L ts0 0) (marks : s.marks = m) (rest : Gets s.heap (restO D H0.objs))
    (hw : (wfR H0.next nx R && nodupB (ksOf R H0.next O ++ (restO D H0.objs).map (·.1)) && Nat.ble H0.next nx && O.all (fun p => Nat.blt p.1 nx) && (restO D H0.objs).all (fun p => Nat.blt p.1 H0.next)) = true) (fit : FitR R H0.next L s.tmps) (ren : RenG R H0.next s.heap O) : KeptA A D L O nx ts0 H0 m s :=
  ⟨keep, marks, rest, R, _, hw, fit, ren.toH⟩
/-- A loop that ends in its first round. -/
theorem GWP.rounds1 {P : Program} {r : Option Nat} {c : Code} {Q : Exit → VSt → Prop} {s : VSt} (h : wcode P r c (thenQ (fun _ => False) Q) s) : GWP P r (.loop c) Q s := ⟨VWP.rounds 1 ((wcode_sound h).mono fun e s' q => by cases e <;> exact q)⟩
theorem GCall.arg1 {P : Program} {f : FuncId} {v u : VV} {H : Heap} {Q : VV → Heap → Prop} (e : v = u) (h : GCall P f [u] H Q) : GCall P f [v] H Q := e ▸ h
theorem GCall.arg21 {P : Program} {f : FuncId} {v u a : VV} {H : Heap} {Q : VV → Heap → Prop} (e : v = u) (h : GCall P f [u, a] H Q) : GCall P f [v, a] H Q := e ▸ h
theorem GCall.arg22 {P : Program} {f : FuncId} {v u a : VV} {H : Heap} {Q : VV → Heap → Prop} (e : v = u) (h : GCall P f [a, u] H Q) : GCall P f [a, v] H Q := e ▸ h
theorem VCall.arg1 {P : Program} {f : FuncId} {v u : VV} {H : Heap} {Q : VV → Heap → Prop} (e : v = u) (h : VCall P f [u] H Q) : VCall P f [v] H Q := e ▸ h
theorem RenV.eq {R : List (Nat × Nat)} {t : Nat} {v u : VV} (e : v = u) (h : Nameless u) : RenV R t v u := by subst e; exact .of h
end Go.Proofs.Ytbnemkdkeaiaoaa
