import Derived.Test.YtpbiblhkcomekaaGreatCE5
import Derived.Test.YtpbiblhkcomekaaGreatCG4
import Derived.Test.YtpbiblhkcomekaaGreatCG5
/- Calls that are given named blocks and change them: what else they made is taken as rows that nobody writes any more. Over any program. -/
namespace Go.Proofs.YtpbiblhkcomekaaGreat
open Go Go.RowKit
set_option linter.unusedSimpArgs false
set_option linter.unusedVariables false
theorem hget_mem {x0 : VObj} {b : Nat} : ∀ (l : List (Nat × VObj)), Go.Proofs.YtpbiblhkcomekaaGreat.hget l b = some x0 → b ∈ l.map (·.1) := by
  intro l
  induction l with
  | nil => intro h; simp [Go.Proofs.YtpbiblhkcomekaaGreat.hget] at h
  | cons p r ih =>
    obtain ⟨k, y⟩ := p
    intro h
    rw [hget_cons] at h
    split at h
    · rename_i e; subst e; simp
    · exact List.mem_cons_of_mem _ (ih h)
theorem hget_of_mem {b : Nat} : ∀ (l : List (Nat × VObj)), b ∈ l.map (·.1) → ∃ x, Go.Proofs.YtpbiblhkcomekaaGreat.hget l b = some x := by
  intro l
  induction l with
  | nil => intro h; simp at h
  | cons p r ih =>
    obtain ⟨k, y⟩ := p
    intro h
    rw [hget_cons]
    by_cases e : k = b
    · rw [if_pos e]; exact ⟨y, rfl⟩
    · rw [if_neg e]
      rcases List.mem_cons.1 h with h | h
      · exact absurd h.symm e
      · exact ih h
theorem VCall.trimC {P : Program} {f : FuncId} {args : List VV} {O1 : List (Nat × VObj)} {n1 : Nat} {Q : VV → Heap → Prop} {Q' : VV → List (Nat × VObj) → Prop}
    (hO : ∀ b x, hget O1 b = some x → ∃ vs, (x = .cells true vs ∨ x = .opt vs)) (h : VCall P f args ⟨O1, n1⟩ Q)
    (hv : ∀ v K, Q v K → ∃ u O2, O2.map (·.1) = O1.map (·.1) ∧ (∀ b x, hget O2 b = some x → K.get b = some x ∧ ∃ vs, (x = .cells true vs ∨ x = .opt vs) ∧ ∀ v ∈ vs, FrzB n1 ⟨restO (O1.map (·.1)) K.objs, K.next⟩ v v) ∧ Q' u O2 ∧ FrzB n1 ⟨restO (O1.map (·.1)) K.objs, K.next⟩ v u) :
    VCall P f args ⟨O1, n1⟩ (fun u K => ∃ O2, Q' u O2 ∧ K = ⟨O2, n1⟩) := fun B M Z ρ w ra h1 h2 => by
  refine (h w (Mine ⟨O1, n1⟩ ρ) Z ρ w ra (h1.part rfl fun _ _ h => h) h2).mono ?_
  rintro e w' ⟨v', v, K, Z', ρ', rfl, q, e1, r1, v1⟩
  obtain ⟨u, O2, hm2, hk, q', hf⟩ := hv v K q
  have mine : ∀ k, Mine ⟨O1, n1⟩ ρ k → B.heap.size ≤ k ∨ M k := fun k ⟨b, x, N, m1, m2, m3⟩ => by
    obtain ⟨k', N', o, g1, g2, g3, g4, g5⟩ := h1.objK m1 m3
    rw [m3] at g1; injection g1 with g1; injection g1 with g1 g1'; subst g1
    exact g5 m2
  have hsz := e1.size
  have k21 : ∀ b x, hget O2 b = some x → ∃ y, hget O1 b = some y := fun b x hx => hget_of_mem O1 (hm2 ▸ hget_mem O2 hx)
  have k12 : ∀ b x, hget O1 b = some x → ∃ y, hget O2 b = some y := fun b x hx => hget_of_mem O2 (hm2 ▸ hget_mem O1 hx)
  have zz : ∀ k, Z' k → Z k ∨ (w.heap.size ≤ k ∧ k < w'.heap.size) := fun k hkz => by
    rcases e1.znew k hkz with g | g | g | ⟨b, x, N, m1, m2, m3⟩
    · exact .inl g
    · exact .inr ⟨g, r1.zlt k hkz⟩
    · exact .inr ⟨g, r1.zlt k hkz⟩
    · obtain ⟨y, hy⟩ := k12 b x m1
      obtain ⟨k', N', o, g1, g2, g3, g4, g5⟩ := r1.objK (hk b y hy).1 (e1.rsub _ _ m3)
      rw [e1.rsub _ _ m3] at g1; injection g1 with g1; injection g1 with g1 g1'; subst g1
      exact absurd hkz g4
  have hget : ∀ b, (⟨restO (O1.map (·.1)) K.objs, K.next⟩ : Heap).get b = match memN b (O1.map (·.1)) with
    | true => none
    | false => K.get b := fun b => hget_restO _ b _
  have hsub : ∀ b x, (⟨restO (O1.map (·.1)) K.objs, K.next⟩ : Heap).get b = some x → K.get b = some x ∧ memN b (O1.map (·.1)) = false := fun b x hx => by
    rw [hget] at hx
    split at hx
    · cases hx
    · rename_i hm; exact ⟨hx, hm⟩
  have hBs : ({ w' with heap := w'.heap.extract 0 w.heap.size } : World).heap.size = w.heap.size := by
    show (w'.heap.extract 0 w.heap.size).size = _
    rw [Array.size_extract]; omega
  have hBk : ∀ k, k < w.heap.size → ({ w' with heap := w'.heap.extract 0 w.heap.size } : World).heap[k]? = w'.heap[k]? := fun k hk => by
    show (w'.heap.extract 0 w.heap.size)[k]? = _
    rw [Array.getElem?_extract, if_pos (by omega), Nat.zero_add]
  have hr : Rel { w' with heap := w'.heap.extract 0 w.heap.size } (fun _ => False) Z' ρ' ⟨restO (O1.map (·.1)) K.objs, K.next⟩ w' := by
    refine ⟨fun w2 a b c d e => ?_, rfl, rfl, rfl, by rw [hBs]; exact hsz, fun k hk _ => (hBk k (by rw [hBs] at hk; exact hk)).symm, r1.dom, fun b x hx => r1.live b x (hsub b x hx).1, fun b b' k N N' x x' hx hx' => r1.inj b b' k N N' x x' (hsub b x hx).1 (hsub b' x' hx').1, fun b x hx => ?_, r1.zlt⟩
    · refine r1.glob w2 (a.trans r1.os) (b.trans r1.tape) (c.trans r1.output) (by rw [hBs] at d; exact d) fun k hk hm => ?_
      rw [e k (by rw [hBs]; exact hk) id, hBk k hk]
      exact r1.frame k hk hm
    · obtain ⟨hx1, hx2⟩ := hsub b x hx
      rcases r1.obj b x hx1 with hg | ⟨k, N, o, g1, g2, g3, g4, g5⟩
      · exact .inl hg
      refine .inr ⟨k, N, o, g1, g2, g3, g4, fun hrw => .inl ?_⟩
      rw [hBs]
      refine (g5 hrw).resolve_right ?_
      rintro ⟨b0, x0, N0, m1, m2, m3⟩
      obtain ⟨y0, hy0⟩ := k12 b0 x0 m1
      have := r1.inj b b0 k N N0 x y0 hx1 (hk b0 y0 hy0).1 g1 (e1.rsub _ _ m3)
      subst this
      rw [memN_iff.2 (hget_mem O1 m1)] at hx2
      cases hx2
  have conv : ∀ {v u : VV} {y : Value}, FrzB n1 ⟨restO (O1.map (·.1)) K.objs, K.next⟩ v u → VRel w' Z' ρ' v y → VRel w' (fun k => Z k ∨ (w.heap.size ≤ k ∧ k < w'.heap.size)) ρ u y := fun hf hv => by
    refine (hf _ w' Z' ρ' ρ _ hr (fun b hb => (e1.rold b hb).symm) hv).zmono fun k hk => ?_
    rcases hk with hk | hk
    · exact zz k hk
    · rw [hBs] at hk; exact .inr hk
  refine ⟨v', u, ⟨O2, n1⟩, fun k => Z k ∨ (w.heap.size ≤ k ∧ k < w'.heap.size), ρ, rfl, ⟨O2, q', rfl⟩, ⟨Nat.le_refl _, fun _ _ => rfl, fun _ h => .inl h, fun _ _ h => h, e1.keep, e1.size, fun k hk => hk.imp id fun q => .inl q.1⟩, ⟨h1.glob, r1.os.trans h1.os, r1.tape.trans h1.tape, r1.output.trans h1.output, Nat.le_trans h1.size r1.size, ?_, h1.dom, ?_, ?_, ?_, ?_⟩, conv hf v1⟩
  · intro k hkb hM
    have hs1 := h1.size
    rw [r1.frame k (by omega) (fun hm => (mine k hm).elim (fun q => by omega) hM)]
    exact h1.frame k hkb hM
  · intro b x hx
    obtain ⟨y, hy⟩ := k21 b x hx
    exact h1.live b y hy
  · intro b b' k N N' x x' hx hx' g g'
    obtain ⟨y, hy⟩ := k21 b x hx
    obtain ⟨y', hy'⟩ := k21 b' x' hx'
    exact h1.inj b b' k N N' y y' hy hy' g g'
  · intro b x hx
    obtain ⟨y, hy⟩ := k21 b x hx
    have hlive : b < n1 := h1.live b y hy
    obtain ⟨hkx, vs, hxv, hvs⟩ := hk b x hx
    rcases r1.obj b x hkx with ⟨hg, hn⟩ | ⟨k, N, o, g1, g2, g3, g4, g5⟩
    · exact .inl ⟨hg, by rw [← e1.rold b hlive]; exact hn⟩
    have gρ : ρ b = some (k, N) := by rw [← e1.rold b hlive]; exact g1
    have hlt := h1.lt hy gρ
    refine .inr ⟨k, N, o, gρ, g2, ?_, fun hz => hz.elim (fun q => g4 (e1.zsub _ q)) (fun q => by omega), fun _ => ?_⟩
    · rcases hxv with rfl | rfl
      · obtain ⟨cs, t, fr, a0, a4, a2, a3⟩ := g3
        exact ⟨cs, t, fr, a0, a4, fun i u hu => let ⟨c, hc, hr⟩ := a2 i u hu; ⟨c, hc, conv (hvs u (List.mem_of_getElem? hu)) hr⟩, a3⟩
      · obtain ⟨cs, t, fr, a0, a4, a2, a3⟩ := g3
        exact ⟨cs, t, fr, a0, a4, fun i u hu => let ⟨c, hc, hr⟩ := a2 i u hu; ⟨c, hc, conv (hvs u (List.mem_of_getElem? hu)) hr⟩, a3⟩
    · obtain ⟨k', N', o', p1, p2, p3, p4, p5⟩ := h1.objK hy gρ
      rw [gρ] at p1; injection p1 with p1; injection p1 with p1 p1'; subst p1
      refine p5 ?_
      obtain ⟨ws, hw⟩ := hO b y hy
      rcases hw with rfl | rfl <;> rfl
  · intro k hkz
    rcases hkz with hkz | hkz
    · have := h1.zlt k hkz; omega
    · exact hkz.2
end Go.Proofs.YtpbiblhkcomekaaGreat

/- The tree's parser in plain words. -/
namespace Go.Proofs.YtpbiblhkcomekaaGreat
open Go Go.RowKit
set_option linter.unusedSimpArgs false
set_option linter.unusedVariables false
/-- A node. -/
inductive Nd where
  | mk (op : Nat) (text : List UInt8) (num : Nat) (kids : List Nd)
def nd0 : Nd := .mk 0 [] 0 []
/-- The parser: the signs left, how deep it is, the first error. -/
structure PSt where
  l : List (Sg × Nat)
  d : Nat
  e : Nat
def isS (x : List UInt8) (s : PSt) : Bool × PSt := match s.l with
  | [] => (false, s)
  | (g, _) :: r => if s.e = 0 ∧ g.text = x ∧ (g.kind = 2 ∨ g.kind = 5) then (true, ⟨r, s.d, s.e⟩) else (false, s)
def failP (e : Nat) (s : PSt) : PSt := if s.e = 0 then ⟨s.l, s.d, e⟩ else s
def mustS (x : List UInt8) (s : PSt) : PSt := if (isS x s).1 then (isS x s).2 else failP 2 s
def takeS (k : Nat) (s : PSt) : Option (Sg × Nat) × PSt := match s.l with
  | [] => (none, s)
  | (g, a) :: r => if s.e = 0 ∧ g.kind = k then (some (g, a), ⟨r, s.d, s.e⟩) else (none, s)
def nmS (s : PSt) : List UInt8 × PSt := match takeS 1 s with
  | (some (g, _), s') => (g.text, s')
  | (none, s') => ([], failP 2 s')
def deepE (s : PSt) : PSt := if 16 ≤ s.d then failP 9 s else s
/-- What is read one deeper. -/
def deepS (rd : PSt → Nd × PSt) (s : PSt) : Nd × PSt :=
  if (deepE s).e ≠ 0 then (nd0, deepE s)
  else ((rd ⟨s.l, s.d + 1, s.e⟩).1, ⟨(rd ⟨s.l, s.d + 1, s.e⟩).2.l, (rd ⟨s.l, s.d + 1, s.e⟩).2.d - 1, (rd ⟨s.l, s.d + 1, s.e⟩).2.e⟩)
/-- What is read with commas, behind the first bracket. -/
def lsLoop (rd : PSt → Nd × PSt) : Nat → List Nd → PSt → List Nd × PSt
  | 0, out, s => (out, s)
  | f + 1, out, s => if s.e = 0 then
      (if (isS [41] (rd s).2).1 then (out ++ [(rd s).1], (isS [41] (rd s).2).2) else lsLoop rd f (out ++ [(rd s).1]) (mustS [44] (rd s).2))
    else (out, s)
def listS (rd : PSt → Nd × PSt) (s : PSt) : List Nd × PSt := if (isS [41] s).1 then ([], (isS [41] s).2) else lsLoop rd (s.l.length + 2) [] s
def opL (i : Nat) : List (List UInt8) := match i with
  | 0 => [[111, 114]]
  | 1 => [[97, 110, 100]]
  | 2 => [[61, 61], [33, 61], [60], [60, 61], [62], [62, 61]]
  | 3 => [[43], [45]]
  | 4 => [[42], [47], [37]]
  | _ => []
def opS : List (List UInt8) → PSt → Option (List UInt8) × PSt
  | [], s => (none, s)
  | x :: r, s => if (isS x s).1 then (some x, (isS x s).2) else opS r s
def lvLoop (i : Nat) (nx : PSt → Nd × PSt) : Nat → Nd → PSt → Nd × PSt
  | 0, out, s => (out, s)
  | f + 1, out, s => match opS (opL i) s with
    | (none, s1) => (out, s1)
    | (some x, s1) => if i = 2 then (.mk 13 x 0 [out, (nx s1).1], (nx s1).2) else lvLoop i nx f (.mk 13 x 0 [out, (nx s1).1]) (nx s1).2
/-- Parts with operators of the last k levels. -/
def levS (un : PSt → Nd × PSt) : Nat → PSt → Nd × PSt
  | 0, s => un s
  | k + 1, s => lvLoop (4 - k) (levS un k) ((levS un k s).2.l.length + 1) (levS un k s).1 (levS un k s).2
def primS (un : PSt → Nd × PSt) (s : PSt) : Nd × PSt := match takeS 3 s with
  | (some (g, _), s') => (.mk 8 [] g.num [], s')
  | (none, _) => match takeS 4 s with
    | (some (g, _), s') => (.mk 9 g.text 0 [], s')
    | (none, _) => if (isS [110, 105, 108] s).1 then (.mk 10 [] 0 [], (isS [110, 105, 108] s).2)
      else if (isS [40] s).1 then ((deepS (levS un 5) (isS [40] s).2).1, mustS [41] (deepS (levS un 5) (isS [40] s).2).2)
      else if (isS [40] (nmS s).2).1 then (.mk 12 (nmS s).1 0 (listS (deepS (levS un 5)) (isS [40] (nmS s).2).2).1, (listS (deepS (levS un 5)) (isS [40] (nmS s).2).2).2)
      else (.mk 11 (nmS s).1 0 [], (nmS s).2)
def unS : Nat → PSt → Nd × PSt
  | 0, s => (nd0, s)
  | n + 1, s => if (isS [110, 111, 116] s).1 then (.mk 14 [110, 111, 116] 0 [(deepS (unS n) (isS [110, 111, 116] s).2).1], (deepS (unS n) (isS [110, 111, 116] s).2).2)
    else if (isS [45] s).1 then (.mk 14 [45] 0 [(deepS (unS n) (isS [45] s).2).1], (deepS (unS n) (isS [45] s).2).2)
    else primS (unS n) s
def exS (s : PSt) : Nd × PSt := levS (unS (s.l.length + 1)) 5 s
/-- Statements, up to the end of their block. -/
def stLoop (st : PSt → Nd × PSt) : Nat → List Nd → PSt → List Nd × PSt
  | 0, out, s => (out, s)
  | f + 1, out, s => if s.e = 0 then (if (isS [125] s).1 then (out, (isS [125] s).2) else stLoop st f (out ++ [(st s).1]) (st s).2) else (out, s)
def blockS (st : PSt → Nd × PSt) (s : PSt) : Nd × PSt := deepS (fun s => (.mk 2 [] 0 (stLoop st (s.l.length + 2) [] s).1, (stLoop st (s.l.length + 2) [] s).2)) (mustS [123] s)
def isSet (s : PSt) : Bool := match s.l with
  | (g, _) :: (h, _) :: _ => decide (g.kind = 1) && decide (h.kind = 5) && decide (h.text = [61])
  | _ => false
def ifS (bl : PSt → Nd × PSt) (s : PSt) : Nd × PSt :=
  if (isS [101, 108, 115, 101] (bl (exS s).2).2).1 then (.mk 5 [] 0 [(exS s).1, (bl (exS s).2).1, (bl (isS [101, 108, 115, 101] (bl (exS s).2).2).2).1], (bl (isS [101, 108, 115, 101] (bl (exS s).2).2).2).2)
  else (.mk 5 [] 0 [(exS s).1, (bl (exS s).2).1], (bl (exS s).2).2)
def stmtS (bl : PSt → Nd × PSt) (s : PSt) : Nd × PSt :=
  if (isS [105, 102] s).1 then ifS bl (isS [105, 102] s).2
  else if (isS [119, 104, 105, 108, 101] s).1 then (.mk 6 [] 0 [(exS (isS [119, 104, 105, 108, 101] s).2).1, (bl (exS (isS [119, 104, 105, 108, 101] s).2).2).1], (bl (exS (isS [119, 104, 105, 108, 101] s).2).2).2)
  else if (isS [115, 116, 111, 112] s).1 then (.mk 7 [] 0 [], mustS [59] (isS [115, 116, 111, 112] s).2)
  else if isSet s then (.mk 3 (nmS s).1 0 [(exS (mustS [61] (nmS s).2)).1], mustS [59] (exS (mustS [61] (nmS s).2)).2)
  else (.mk 4 [] 0 [(exS s).1], mustS [59] (exS s).2)
def blS : Nat → PSt → Nd × PSt
  | 0, s => (nd0, s)
  | n + 1, s => blockS (stmtS (blS n)) s
/-- A handler's line: its names. -/
def varS (s : PSt) : Nd × PSt := (.mk 11 (nmS s).1 0 [], (nmS s).2)
def onS (s : PSt) : Nd × PSt :=
  let s1 := nmS (mustS [111, 110] s)
  let s2 := listS varS (mustS [40] s1.2)
  let s3 := blS (s2.2.l.length + 1) s2.2
  (.mk 1 s1.1 0 (s2.1 ++ [s3.1]), s3.2)
def endS (s : PSt) : Bool := match s.l with
  | [] => true
  | (g, _) :: _ => decide (g.kind = 0)
def scLoop : Nat → List Nd → PSt → List Nd × PSt
  | 0, out, s => (out, s)
  | f + 1, out, s => if s.e = 0 ∧ endS s = false then scLoop f (out ++ [(onS s).1]) (onS s).2 else (out, s)
def scriptS (s : PSt) : Nd × PSt := (.mk 0 [] 0 (scLoop (s.l.length + 2) [] s).1, (scLoop (s.l.length + 2) [] s).2)
def Nd.text : Nd → List UInt8
  | .mk _ t _ _ => t
def Nd.kids : Nd → List Nd
  | .mk _ _ _ k => k
def dupB : List (List UInt8) → List Nd → Bool
  | _, [] => false
  | seen, k :: r => if seen.contains k.text then true else dupB (seen ++ [k.text]) r
/-- A script's tree, or what is wrong. -/
def parseT (t : List UInt8) : Nd × Nat := match signsB t with
  | .inl e => (nd0, e)
  | .inr l => if (scriptS ⟨l, 0, 0⟩).2.e ≠ 0 then (nd0, (scriptS ⟨l, 0, 0⟩).2.e) else if dupB [] (scriptS ⟨l, 0, 0⟩).1.kids then (nd0, 5) else ((scriptS ⟨l, 0, 0⟩).1, 0)
/-! ### What stays -/
def WfL (l : List (Sg × Nat)) : Prop := ∃ p z, l = p ++ [z] ∧ z.1.kind = 0
theorem WfL.ne {l : List (Sg × Nat)} (h : WfL l) : ∃ g a r, l = (g, a) :: r := by
  obtain ⟨p, ⟨z, b⟩, rfl, _⟩ := h
  cases p with
  | nil => exact ⟨z, b, [], rfl⟩
  | cons q r => exact ⟨q.1, q.2, r ++ [(z, b)], rfl⟩
theorem WfL.tail {g : Sg} {a : Nat} {r : List (Sg × Nat)} (h : WfL ((g, a) :: r)) (hg : g.kind ≠ 0) : WfL r := by
  obtain ⟨p, z, hp, hz⟩ := h
  cases p with
  | nil =>
    injection hp with h1 h2
    subst h1
    exact absurd hz hg
  | cons q p =>
    injection hp with h1 h2
    exact ⟨p, z, h2, hz⟩
/-- What may come of a parser. -/
structure Ok (s s' : PSt) : Prop where
  wf : WfL s.l → WfL s'.l
  len : s'.l.length ≤ s.l.length
  dep : s'.d = s.d
  err : s.e ≠ 0 → s'.e = s.e
theorem Ok.refl (s : PSt) : Ok s s := ⟨fun h => h, Nat.le_refl _, rfl, fun _ => rfl⟩
theorem Ok.trans {a b c : PSt} (h : Ok a b) (g : Ok b c) : Ok a c := ⟨fun w => g.wf (h.wf w), Nat.le_trans g.len h.len, g.dep.trans h.dep, fun he => (g.err (by rw [h.err he]; exact he)).trans (h.err he)⟩
theorem isS_ok (x : List UInt8) (s : PSt) : Ok s (isS x s).2 := by
  unfold isS
  split
  · exact .refl s
  · rename_i g a r hl
    split
    · rename_i hc
      refine ⟨fun w => ?_, ?_, rfl, fun _ => rfl⟩
      · rw [hl] at w
        exact w.tail (by omega)
      · rw [hl]; simp
    · exact .refl s
theorem isS_lt {x : List UInt8} {s : PSt} (h : (isS x s).1 = true) : (isS x s).2.l.length < s.l.length ∧ s.e = 0 ∧ (isS x s).2.e = 0 := by
  obtain ⟨l, d, e⟩ := s
  cases l with
  | nil => cases h
  | cons q r =>
    obtain ⟨g, a⟩ := q
    simp only [isS] at h ⊢
    by_cases hc : e = 0 ∧ g.text = x ∧ (g.kind = 2 ∨ g.kind = 5)
    · rw [if_pos hc]
      exact ⟨by simp, hc.1, hc.1⟩
    · rw [if_neg hc] at h
      cases h
theorem isS_no {x : List UInt8} {s : PSt} (h : (isS x s).1 = false) : (isS x s).2 = s := by
  obtain ⟨l, d, e⟩ := s
  cases l with
  | nil => rfl
  | cons q r =>
    obtain ⟨g, a⟩ := q
    simp only [isS] at h ⊢
    by_cases hc : e = 0 ∧ g.text = x ∧ (g.kind = 2 ∨ g.kind = 5)
    · rw [if_pos hc] at h
      cases h
    · rw [if_neg hc]
theorem failP_ok (e : Nat) (s : PSt) : Ok s (failP e s) := by
  unfold failP
  split
  · rename_i h; exact ⟨fun w => w, Nat.le_refl _, rfl, fun g => absurd h g⟩
  · exact .refl s
theorem mustS_ok (x : List UInt8) (s : PSt) : Ok s (mustS x s) := by
  unfold mustS
  split
  · exact isS_ok x s
  · exact failP_ok 2 s
theorem takeS_ok (k : Nat) (hk : k ≠ 0) (s : PSt) : Ok s (takeS k s).2 := by
  unfold takeS
  split
  · exact .refl s
  · rename_i g a r hl
    split
    · rename_i hc
      refine ⟨fun w => ?_, ?_, rfl, fun _ => rfl⟩
      · rw [hl] at w
        exact w.tail (by omega)
      · rw [hl]; simp
    · exact .refl s
theorem nmS_ok (s : PSt) : Ok s (nmS s).2 := by
  have h := takeS_ok 1 (by decide) s
  unfold nmS
  split
  · rename_i g a s' e
    rw [e] at h
    exact h
  · rename_i s' e
    rw [e] at h
    exact h.trans (failP_ok 2 s')
theorem deepS_ok {rd : PSt → Nd × PSt} (s : PSt) (h : ∀ s', s'.l.length ≤ s.l.length → Ok s' (rd s').2) : Ok s (deepS rd s).2 := by
  unfold deepS
  have h1 : Ok s (deepE s) := by
    unfold deepE
    split
    · exact failP_ok 9 s
    · exact .refl s
  split
  · exact h1
  · have h2 := h ⟨s.l, s.d + 1, s.e⟩ (Nat.le_refl _)
    refine ⟨h2.wf, h2.len, ?_, h2.err⟩
    have := h2.dep
    simp only at this ⊢
    omega
theorem lsLoop_ok {rd : PSt → Nd × PSt} : ∀ (f : Nat) (out : List Nd) (s : PSt), (∀ s', s'.l.length ≤ s.l.length → Ok s' (rd s').2) → Ok s (lsLoop rd f out s).2
  | 0, out, s, h => .refl s
  | f + 1, out, s, h => by
    have h1 := h s (Nat.le_refl _)
    unfold lsLoop
    split
    · split
      · exact h1.trans (isS_ok _ _)
      · have h2 := h1.trans (mustS_ok [44] (rd s).2)
        exact h2.trans (lsLoop_ok f _ _ fun s' hs' => h s' (Nat.le_trans hs' h2.len))
    · exact .refl s
theorem listS_ok {rd : PSt → Nd × PSt} (s : PSt) (h : ∀ s', s'.l.length ≤ s.l.length → Ok s' (rd s').2) : Ok s (listS rd s).2 := by
  unfold listS
  split
  · exact isS_ok _ _
  · exact lsLoop_ok _ _ s h
theorem opS_ok : ∀ (l : List (List UInt8)) (s : PSt), Ok s (opS l s).2
  | [], s => .refl s
  | x :: r, s => by
    unfold opS
    split
    · exact isS_ok x s
    · exact opS_ok r s
theorem opS_lt : ∀ (l : List (List UInt8)) (s : PSt) (x : List UInt8), (opS l s).1 = some x → (opS l s).2.l.length < s.l.length ∧ s.e = 0
  | [], s, x, h => by cases h
  | y :: r, s, x, h => by
    unfold opS at h ⊢
    split at h
    · rename_i hc
      rw [if_pos hc]
      exact ⟨(isS_lt hc).1, (isS_lt hc).2.1⟩
    · rename_i hc
      rw [if_neg hc]
      exact opS_lt r s x h
theorem opS_no : ∀ (l : List (List UInt8)) (s : PSt), (opS l s).1 = none → (opS l s).2 = s
  | [], s, h => rfl
  | y :: r, s, h => by
    unfold opS at h ⊢
    split at h
    · cases h
    · rename_i hc
      rw [if_neg hc]
      exact opS_no r s h
theorem lvLoop_ok {i : Nat} {nx : PSt → Nd × PSt} : ∀ (f : Nat) (out : Nd) (s : PSt), (∀ s', s'.l.length ≤ s.l.length → Ok s' (nx s').2) → Ok s (lvLoop i nx f out s).2
  | 0, out, s, h => .refl s
  | f + 1, out, s, h => by
    have h1 := opS_ok (opL i) s
    unfold lvLoop
    split
    · rename_i s1 e
      rw [e] at h1
      exact h1
    · rename_i x s1 e
      rw [e] at h1
      have h2 := h1.trans (h s1 h1.len)
      split
      · exact h2
      · exact h2.trans (lvLoop_ok f _ _ fun s' hs' => h s' (Nat.le_trans hs' h2.len))
theorem levS_ok {un : PSt → Nd × PSt} : ∀ (k : Nat) (s : PSt), (∀ s', s'.l.length ≤ s.l.length → Ok s' (un s').2) → Ok s (levS un k s).2
  | 0, s, h => h s (Nat.le_refl _)
  | k + 1, s, h => by
    have h1 := levS_ok k s h
    unfold levS
    exact h1.trans (lvLoop_ok _ _ _ fun s' hs' => levS_ok k s' fun s2 hs2 => h s2 (Nat.le_trans hs2 (Nat.le_trans hs' h1.len)))
theorem primS_ok {un : PSt → Nd × PSt} (s : PSt) (h : ∀ s', s'.l.length ≤ s.l.length → Ok s' (un s').2) : Ok s (primS un s).2 := by
  have t3 := takeS_ok 3 (by decide) s
  have t4 := takeS_ok 4 (by decide) s
  have hl : ∀ s2 : PSt, s2.l.length ≤ s.l.length → Ok s2 (levS un 5 s2).2 := fun s2 h2 => levS_ok 5 s2 fun s' h' => h s' (Nat.le_trans h' h2)
  have hd : ∀ s2 : PSt, s2.l.length ≤ s.l.length → Ok s2 (deepS (levS un 5) s2).2 := fun s2 h2 => deepS_ok s2 fun s' h' => hl s' (Nat.le_trans h' h2)
  unfold primS
  split
  · rename_i g a s' e
    rw [e] at t3
    exact t3
  · split
    · rename_i g a s' e
      rw [e] at t4
      exact t4
    · split
      · exact isS_ok _ _
      · split
        · have h1 := isS_ok [40] s
          exact (h1.trans (hd _ h1.len)).trans (mustS_ok _ _)
        · have h1 := nmS_ok s
          split
          · have h2 := h1.trans (isS_ok [40] (nmS s).2)
            exact h2.trans (listS_ok _ fun s' h' => hd s' (Nat.le_trans h' h2.len))
          · exact h1
theorem unS_ok : ∀ (n : Nat) (s : PSt), Ok s (unS n s).2
  | 0, s => .refl s
  | n + 1, s => by
    have hd : ∀ s2 : PSt, Ok s2 (deepS (unS n) s2).2 := fun s2 => deepS_ok s2 fun s' _ => unS_ok n s'
    unfold unS
    split
    · exact (isS_ok _ _).trans (hd _)
    · split
      · exact (isS_ok _ _).trans (hd _)
      · exact primS_ok s fun s' _ => unS_ok n s'
theorem exS_ok (s : PSt) : Ok s (exS s).2 := levS_ok 5 s fun s' _ => unS_ok _ s'
theorem stLoop_ok {st : PSt → Nd × PSt} (h : ∀ s', Ok s' (st s').2) : ∀ (f : Nat) (out : List Nd) (s : PSt), Ok s (stLoop st f out s).2
  | 0, out, s => .refl s
  | f + 1, out, s => by
    unfold stLoop
    split
    · split
      · exact isS_ok _ _
      · exact (h s).trans (stLoop_ok h f _ _)
    · exact .refl s
theorem blockS_ok {st : PSt → Nd × PSt} (h : ∀ s', Ok s' (st s').2) (s : PSt) : Ok s (blockS st s).2 := (mustS_ok [123] s).trans (deepS_ok _ fun s' _ => stLoop_ok h _ _ s')
theorem ifS_ok {bl : PSt → Nd × PSt} (h : ∀ s', Ok s' (bl s').2) (s : PSt) : Ok s (ifS bl s).2 := by
  unfold ifS
  have h1 := (exS_ok s).trans (h (exS s).2)
  split
  · exact (h1.trans (isS_ok _ _)).trans (h _)
  · exact h1
theorem stmtS_ok {bl : PSt → Nd × PSt} (h : ∀ s', Ok s' (bl s').2) (s : PSt) : Ok s (stmtS bl s).2 := by
  unfold stmtS
  split
  · exact (isS_ok _ _).trans (ifS_ok h _)
  · split
    · exact ((isS_ok _ _).trans (exS_ok _)).trans (h _)
    · split
      · exact (isS_ok _ _).trans (mustS_ok _ _)
      · split
        · exact (((nmS_ok s).trans (mustS_ok _ _)).trans (exS_ok _)).trans (mustS_ok _ _)
        · exact (exS_ok s).trans (mustS_ok _ _)
theorem blS_ok : ∀ (n : Nat) (s : PSt), Ok s (blS n s).2
  | 0, s => .refl s
  | n + 1, s => blockS_ok (stmtS_ok (blS_ok n)) s
theorem varS_ok (s : PSt) : Ok s (varS s).2 := nmS_ok s
theorem onS_ok (s : PSt) : Ok s (onS s).2 := ((((mustS_ok _ s).trans (nmS_ok _)).trans (mustS_ok _ _)).trans (listS_ok _ fun s' _ => varS_ok s')).trans (blS_ok _ _)
theorem scLoop_ok : ∀ (f : Nat) (out : List Nd) (s : PSt), Ok s (scLoop f out s).2
  | 0, out, s => .refl s
  | f + 1, out, s => by
    unfold scLoop
    split
    · exact (onS_ok s).trans (scLoop_ok f _ _)
    · exact .refl s
end Go.Proofs.YtpbiblhkcomekaaGreat

/- A parser's state and nodes as the program holds them; a call of one of its methods, told at its own name, used at any. -/
namespace Go.Proofs.YtpbiblhkcomekaaGreat
open Go Go.RowKit
set_option linter.unusedSimpArgs false
set_option linter.unusedVariables false
mutual
/-- A node's cells. -/
def cellsN : Nd → List VV
  | .mk op t n k => [iV op, strV t, iV n, .ro k.length (rowsN k)]
def rowsN : List Nd → List VV
  | [] => []
  | p :: r => cellsN p ++ rowsN r
end
def nV (n : Nd) : VV := .ag (cellsN n)
theorem cellsN_len : ∀ p : Nd, (cellsN p).length = 4
  | .mk _ _ _ _ => by rw [cellsN]; rfl
theorem rowsN_len : ∀ l : List Nd, (rowsN l).length = l.length * 4
  | [] => by rw [rowsN]; rfl
  | p :: r => by
    rw [rowsN, List.length_append, cellsN_len, rowsN_len r, List.length_cons]
    omega
theorem rowsN_snoc (p : Nd) : ∀ l : List Nd, rowsN (l ++ [p]) = rowsN l ++ cellsN p
  | [] => by simp only [List.nil_append, rowsN, List.append_nil]
  | q :: r => by rw [List.cons_append, rowsN, rowsN, rowsN_snoc p r, List.append_assoc]
mutual
theorem cellsN_nameless : ∀ p : Nd, ∀ v ∈ cellsN p, Nameless v
  | .mk k n t l => fun v hv => by
    rw [cellsN] at hv
    simp only [List.mem_cons, List.not_mem_nil, or_false] at hv
    rcases hv with rfl | rfl | rfl | rfl
    · exact nameless_sc _
    · exact nameless_strV n
    · exact nameless_sc _
    · exact nameless_ro (rowsN_nameless l)
theorem rowsN_nameless : ∀ l : List Nd, ∀ v ∈ rowsN l, Nameless v
  | [] => fun v hv => by rw [rowsN] at hv; cases hv
  | p :: r => fun v hv => by
    rw [rowsN] at hv
    rcases List.mem_append.1 hv with hv | hv
    · exact cellsN_nameless p v hv
    · exact rowsN_nameless r v hv
end
theorem nameless_nV (n : Nd) : Nameless (nV n) := nameless_ag (cellsN_nameless n)
/-- The parser's block. -/
def pC (s : PSt) : VObj := .cells true [.ro s.l.length (rowsG s.l), iV s.d, iV s.e]
theorem nameless_roG (l : List (Sg × Nat)) : Nameless (.ro l.length (rowsG l)) := nameless_ro (rowsG_ok Nameless nameless_sc l)
theorem pC_ren {R : List (Nat × Nat)} {t : Nat} (s : PSt) : RenO R t (pC s) (pC s) := .cells (.cons (.of (nameless_roG s.l)) (.cons (.of (nameless_sc _)) (.cons (.of (nameless_sc _)) .nil)))
/-- A method's call at its own name. -/
def PCall (f : FuncId) (args : List VV) (s : PSt) (u : VV) (s' : PSt) : Prop := VCall Tryz.prog f (.ptr 0 0 :: args) ⟨[(0, pC s)], 1⟩ (fun v K => v = u ∧ K = ⟨[(0, pC s')], 1⟩)
theorem memB_restO {D : List Nat} {b : Nat} (hb : memN b D = true) : ∀ O : List (Nat × VObj), memN b ((restO D O).map (·.1)) = false
  | [] => rfl
  | (k, x) :: r => by
    have ih := memB_restO hb r
    unfold restO
    cases hm : memN k D with
    | true => exact ih
    | false =>
      simp only [List.map_cons]
      have hkb : b ≠ k := fun e => by rw [← e, hb] at hm; cases hm
      cases hq : memN b (k :: (restO D r).map (·.1)) with
      | false => rfl
      | true =>
        rcases List.mem_cons.1 (memN_iff.1 hq) with h | h
        · exact absurd h hkb
        · rw [memN_iff.2 h] at ih; cases ih
theorem PCall.at {f : FuncId} {args : List VV} {s s' : PSt} {u : VV} (hu : Nameless u) (ha : ∀ v ∈ args, Nameless v) (h : PCall f args s u s') {H : Heap} {b : Nat} (hb : H.get b = some (pC s)) : VCall Tryz.prog f (.ptr b 0 :: args) H (fun v K => v = u ∧ K = ⟨(b, pC s') :: restO [b] H.objs, H.next⟩) := by
  refine VCall.live fun hlive => ?_
  have hbl := hlive b _ hb
  have e1 : Nat.beq b b = true := Nat.beq_refl b
  have e2 : Nat.blt b H.next = true := blt_iff.2 hbl
  have e7 : ∀ n, Nat.ble 0 n = true := fun n => Nat.ble_eq_true_of_le (Nat.zero_le n)
  refine VCall.at (n1 := 1) (O1 := [(0, pC s)]) [b] [(b, 0)] ?_ ⟨⟨_, (keepO_get (memN_iff.2 (by simp))).trans hb, pC_ren s⟩, trivial⟩ (.cons (.ptr (by simp)) (RenL.of ha)) h ?_
  · rfl
  · rintro v K ⟨rfl, rfl⟩
    have e0 : backR [(b, 0)] 1 H.next (1 - 1) = [(0, b)] := rfl
    have s1 : srcOf [(0, b)] 0 b = some 0 := by simp only [srcOf0, srcN, e1]
    refine ⟨v, [(b, pC s')], ⟨?_, .of hu, ?_⟩, ?_, rfl, rfl⟩
    · show (wfR 0 (H.next + 0) (backR [(b, 0)] 1 H.next (1 - 1)) && nodupB (ksOf (backR [(b, 0)] 1 H.next (1 - 1)) 0 [(b, pC s')]) && ([(b, pC s')] : List (Nat × VObj)).all (fun p => (srcN (backR [(b, 0)] 1 H.next (1 - 1)) p.1).isSome) && _) = true
      rw [e0]
      simp only [wfR, ksOf, s1, srcN, e1, e2, e7, Nat.add_zero, List.all_cons, List.all_nil]
      rfl
    · show RenG (backR [(b, 0)] 1 H.next (1 - 1)) 0 ⟨[(0, pC s')], 1⟩ _
      rw [e0]
      refine ⟨?_, trivial⟩
      rw [s1]
      exact ⟨_, rfl, pC_ren s'⟩
    · have e3 := memB_restO (D := [b]) (b := b) (memN_iff.2 (by simp)) H.objs
      simp only [List.all_cons, List.all_nil, e3]
      rfl
theorem PCall.of {f : FuncId} {args : List VV} {s s' : PSt} {u : VV}
    (h : VCall Tryz.prog f (.ptr 0 0 :: args) ⟨[(0, pC s)], 1⟩ (fun v K => FrzB 1 ⟨restO [0] K.objs, K.next⟩ v u ∧ K.get 0 = some (pC s'))) : PCall f args s u s' := by
  refine (VCall.trimC (Q' := fun v O2 => v = u ∧ O2 = [(0, pC s')]) ?_ h ?_).mono ?_
  · intro b x hx
    rw [hget_cons] at hx
    split at hx
    · injection hx with hx
      exact ⟨_, .inl hx.symm⟩
    · simp [hget] at hx
  · rintro v K ⟨hf, g1⟩
    refine ⟨u, [(0, pC s')], rfl, fun b x hx => ?_, ⟨rfl, rfl⟩, hf⟩
    rw [hget_cons] at hx
    split at hx
    · rename_i eb
      subst eb
      injection hx with hx
      subst hx
      refine ⟨g1, _, .inl rfl, fun v hv => ?_⟩
      simp only [List.mem_cons, List.not_mem_nil, or_false] at hv
      rcases hv with rfl | rfl | rfl
      · exact .of (nameless_roG _)
      · exact .of (nameless_sc _)
      · exact .of (nameless_sc _)
    · simp [hget] at hx
  · rintro v K ⟨O2, ⟨rfl, rfl⟩, rfl⟩
    exact ⟨rfl, rfl⟩
end Go.Proofs.YtpbiblhkcomekaaGreat

/- The parser's small methods, walked. -/
namespace Go.Proofs.YtpbiblhkcomekaaGreat
open Go Go.RowKit
set_option linter.unusedSimpArgs false
set_option linter.unusedVariables false
set_option maxRecDepth 100000
set_option maxHeartbeats 8000000
theorem vat_hd {g : Sg} {a o : Nat} {r : List (Sg × Nat)} (ho : o = 0) : vat Tryz.prog 159 (rowsG ((g, a) :: r)) o = some (.ag [iV g.kind, strV g.text, iV g.num, iV a]) := by
  have h1 : vagg Tryz.prog 159 = some true := by kernel_rfl
  have h2 : vsize Tryz.prog 159 = some 4 := by kernel_rfl
  subst ho
  have h3 : Nat.ble (0 + 4) (rowsG ((g, a) :: r)).length = true := Nat.ble_eq_true_of_le (by rw [rowsG_len]; simp only [List.length_cons]; omega)
  simp only [vat, h1, h2, h3]
  rfl
theorem roG_tl {q : Sg × Nat} {r : List (Sg × Nat)} {m z1 z2 : Nat} (hz1 : z1 = 4) (hz2 : z2 = 4) (hm : m = 1) : VV.ro ((q :: r).length - m) (((rowsG (q :: r)).drop (m * z1)).take (((q :: r).length - m) * z2)) = .ro r.length (rowsG r) := by
  subst hz1 hz2 hm
  have e : (rowsG (q :: r)).drop (1 * 4) = rowsG r := by
    show (sgV q.1 q.2 ++ rowsG r).drop 4 = rowsG r
    rfl
  rw [e, List.length_cons, Nat.add_sub_cancel, List.take_of_length_le (by rw [rowsG_len]; exact Nat.le_refl _)]
theorem FrzB.tp0' {n : Nat} {K : Heap} : FrzB n K (.tp []) (.tp []) := .of (nameless_tp (by simp))
theorem fail_call (s : PSt) (f : Nat) : PCall 106 [iV f] s (.tp []) (failP f s) := by
  refine PCall.of ?_
  obtain ⟨l, d, e⟩ := s
  unfold failP
  refine VCall.go Tryz.func106 rfl ?_
  by_cases he : e = 0
  · rw [if_pos he]
    repeat' (first|with_reducible refine And.intro ?_ ?_|(with_reducible intro hc;(try simp only [zz] at hc);try exact ct)|exact Is.mk rfl rfl|((conv => whnf);first|with_reducible refine And.intro ?_ ?_|with_reducible intro hx|exact Is.mk rfl rfl|(with_reducible first|apply Val.via|apply ValH.via)|refine sp ?_|refine vx (by (first|exact vat_hd rfl|exact vat_of rfl rfl rfl|rfl)) ?_|refine GWP.drawY mixed _ (by kernel_rfl) (by rfl) ?_|fail|refine sq ?_))
    (all_goals (first|omega|contradiction|skip))
    all_goals exact Done'.mk ⟨.tp0', rfl⟩
  · rw [if_neg he]
    repeat' (first|with_reducible refine And.intro ?_ ?_|(with_reducible intro hc;(try simp only [zz] at hc);try exact ct)|exact Is.mk rfl rfl|((conv => whnf);first|with_reducible refine And.intro ?_ ?_|with_reducible intro hx|exact Is.mk rfl rfl|(with_reducible first|apply Val.via|apply ValH.via)|refine sp ?_|refine vx (by (first|exact vat_hd rfl|exact vat_of rfl rfl rfl|rfl)) ?_|refine GWP.drawY mixed _ (by kernel_rfl) (by rfl) ?_|fail|refine sq ?_))
    (all_goals (first|omega|contradiction|skip))
    all_goals exact Done'.mk ⟨.tp0', rfl⟩
theorem pC_mk (l : List (Sg × Nat)) (d e : Nat) : pC ⟨l, d, e⟩ = .cells true [.ro l.length (rowsG l), iV d, iV e] := rfl
theorem is_call (x : List UInt8) (s : PSt) (hw : WfL s.l) (hn : s.l.length ≤ 100000) : PCall 105 [strV x] s (booV (isS x s).1) (isS x s).2 := by
  refine PCall.of ?_
  obtain ⟨l, d, e⟩ := s
  obtain ⟨g, a, r, rfl⟩ := hw.ne
  obtain ⟨kd, tx, nm⟩ := g
  have hlc : ((⟨kd, tx, nm⟩, a) :: r : List (Sg × Nat)).length = r.length + 1 := rfl
  dsimp only at hn
  unfold isS
  dsimp only
  rw [pC_mk]
  refine VCall.go Tryz.func105 rfl ?_
  by_cases hc0 : e = 0
  · by_cases htx : tx = x
    · by_cases hk : kd = 2 ∨ kd = 5
      · rw [if_pos ⟨hc0, htx, hk⟩]
        subst hc0 htx
        (repeat' (first|with_reducible refine And.intro ?_ ?_|(with_reducible intro hc;(try simp only [zz] at hc);try exact ct)|exact Is.mk rfl rfl|((conv => whnf);first|with_reducible refine And.intro ?_ ?_|with_reducible intro hx|exact Is.mk rfl rfl|(with_reducible first|apply Val.via|apply ValH.via)|refine sp ?_|refine vx (by (first|exact vat_hd rfl|exact vat_of rfl rfl rfl|rfl)) ?_|refine GWP.drawY mixed _ (by kernel_rfl) (by rfl) ?_|fail|refine sq ?_)))
        (all_goals (first|omega|contradiction|skip))
        all_goals exact Done'.mk ⟨.of (nameless_sc _), congrArg some (congrArg (VObj.cells true) (congrArg (· :: [iV d, iV 0]) (roG_tl rfl rfl rfl)))⟩
      · rw [if_neg (fun h => hk h.2.2)]
        (repeat' (first|with_reducible refine And.intro ?_ ?_|(with_reducible intro hc;(try simp only [zz] at hc);try exact ct)|exact Is.mk rfl rfl|((conv => whnf);first|with_reducible refine And.intro ?_ ?_|with_reducible intro hx|exact Is.mk rfl rfl|(with_reducible first|apply Val.via|apply ValH.via)|refine sp ?_|refine vx (by (first|exact vat_hd rfl|exact vat_of rfl rfl rfl|rfl)) ?_|refine GWP.drawY mixed _ (by kernel_rfl) (by rfl) ?_|fail|refine sq ?_)))
        (all_goals (first|omega|contradiction|skip))
        all_goals exact Done'.mk ⟨.of (nameless_sc _), rfl⟩
    · rw [if_neg (fun h => htx h.2.1)]
      (repeat' (first|with_reducible refine And.intro ?_ ?_|(with_reducible intro hc;(try simp only [zz] at hc);try exact ct)|exact Is.mk rfl rfl|((conv => whnf);first|with_reducible refine And.intro ?_ ?_|with_reducible intro hx|exact Is.mk rfl rfl|(with_reducible first|apply Val.via|apply ValH.via)|refine sp ?_|refine vx (by (first|exact vat_hd rfl|exact vat_of rfl rfl rfl|rfl)) ?_|refine GWP.drawY mixed _ (by kernel_rfl) (by rfl) ?_|fail|refine sq ?_)))
      (all_goals (first|omega|contradiction|skip))
      all_goals exact Done'.mk ⟨.of (nameless_sc _), rfl⟩
  · rw [if_neg (fun h => hc0 h.1)]
    (repeat' (first|with_reducible refine And.intro ?_ ?_|(with_reducible intro hc;(try simp only [zz] at hc);try exact ct)|exact Is.mk rfl rfl|((conv => whnf);first|with_reducible refine And.intro ?_ ?_|with_reducible intro hx|exact Is.mk rfl rfl|(with_reducible first|apply Val.via|apply ValH.via)|refine sp ?_|refine vx (by (first|exact vat_hd rfl|exact vat_of rfl rfl rfl|rfl)) ?_|refine GWP.drawY mixed _ (by kernel_rfl) (by rfl) ?_|fail|refine sq ?_)))
    (all_goals (first|omega|contradiction|skip))
    all_goals exact Done'.mk ⟨.of (nameless_sc _), rfl⟩
theorem take_call (k : Nat) (s : PSt) (hw : WfL s.l) (hn : s.l.length ≤ 100000) : PCall 107 [iV k] s (.tp [.ag (match (takeS k s).1 with | some (g, a) => sgV g a | none => sgV noSg 0), booV (takeS k s).1.isSome]) (takeS k s).2 := by
  refine PCall.of ?_
  obtain ⟨l, d, e⟩ := s
  obtain ⟨g, a, r, rfl⟩ := hw.ne
  obtain ⟨kd, tx, nm⟩ := g
  have hlc : ((⟨kd, tx, nm⟩, a) :: r : List (Sg × Nat)).length = r.length + 1 := rfl
  dsimp only at hn
  unfold takeS
  dsimp only
  rw [pC_mk]
  have hfz : ∀ (K : Heap) (g : Sg) (a : Nat) (b : Bool), FrzB 1 K (.tp [.ag (sgV g a), booV b]) (.tp [.ag (sgV g a), booV b]) := fun K g a b => .of (nameless_tp (by simp [booV, nameless_sc]; exact nameless_ag (sgV_ok Nameless nameless_sc g a)))
  refine VCall.go Tryz.func107 rfl ?_
  by_cases hc : e = 0 ∧ kd = k
  · rw [if_pos hc]
    obtain ⟨rfl, rfl⟩ := hc
    (repeat' (first|with_reducible refine And.intro ?_ ?_|(with_reducible intro hc;(try simp only [zz] at hc);try exact ct)|exact Is.mk rfl rfl|((conv => whnf);first|with_reducible refine And.intro ?_ ?_|with_reducible intro hx|exact Is.mk rfl rfl|(with_reducible first|apply Val.via|apply ValH.via)|refine sp ?_|refine vx (by (first|exact vat_hd rfl|exact vat_of rfl rfl rfl|rfl)) ?_|refine GWP.drawY mixed _ (by kernel_rfl) (by rfl) ?_|fail|refine sq ?_)))
    (all_goals (first|omega|contradiction|skip))
    all_goals exact Done'.mk ⟨hfz _ ⟨kd, tx, nm⟩ a true, congrArg some (congrArg (VObj.cells true) (congrArg (· :: [iV d, iV 0]) (roG_tl rfl rfl rfl)))⟩
  · rw [if_neg hc]
    by_cases hc0 : e = 0
    · have hk : ¬ kd = k := fun h => hc ⟨hc0, h⟩
      (repeat' (first|with_reducible refine And.intro ?_ ?_|(with_reducible intro hc;(try simp only [zz] at hc);try exact ct)|exact Is.mk rfl rfl|((conv => whnf);first|with_reducible refine And.intro ?_ ?_|with_reducible intro hx|exact Is.mk rfl rfl|(with_reducible first|apply Val.via|apply ValH.via)|refine sp ?_|refine vx (by (first|exact vat_hd rfl|exact vat_of rfl rfl rfl|rfl)) ?_|refine GWP.drawY mixed _ (by kernel_rfl) (by rfl) ?_|fail|refine sq ?_)))
      (all_goals (first|omega|contradiction|skip))
      all_goals exact Done'.mk ⟨hfz _ noSg 0 false, rfl⟩
    · (repeat' (first|with_reducible refine And.intro ?_ ?_|(with_reducible intro hc;(try simp only [zz] at hc);try exact ct)|exact Is.mk rfl rfl|((conv => whnf);first|with_reducible refine And.intro ?_ ?_|with_reducible intro hx|exact Is.mk rfl rfl|(with_reducible first|apply Val.via|apply ValH.via)|refine sp ?_|refine vx (by (first|exact vat_hd rfl|exact vat_of rfl rfl rfl|rfl)) ?_|refine GWP.drawY mixed _ (by kernel_rfl) (by rfl) ?_|fail|refine sq ?_)))
      (all_goals (first|omega|contradiction|skip))
      all_goals exact Done'.mk ⟨hfz _ noSg 0 false, rfl⟩
theorem must_call (x : List UInt8) (s : PSt) (hw : WfL s.l) (hn : s.l.length ≤ 100000) : PCall 71 [strV x] s (.tp []) (mustS x s) := by
  refine PCall.of ?_
  have k1 := fun (H : Heap) (hb : H.get 0 = some (pC s)) => PCall.at (nameless_sc _) (by simp [nameless_strV]) (is_call x s hw hn) hb
  have k2 := fun s2 (H : Heap) (hb : H.get 0 = some (pC s2)) => PCall.at (nameless_tp (by simp)) (by simp [iV, nameless_sc]) (fail_call s2 2) hb
  have hno := isS_no (x := x) (s := s)
  unfold mustS
  cases hi : (isS x s).1 with
  | true =>
    rw [hi] at k1
    rw [if_pos rfl]
    generalize (isS x s).2 = s2 at *
    refine VCall.go Tryz.func71 rfl ?_
    (repeat' (first|with_reducible refine And.intro ?_ ?_|(with_reducible intro hc;(try simp only [zz] at hc);try exact ct)|exact Is.mk rfl rfl|((conv => whnf);first|with_reducible refine And.intro ?_ ?_|with_reducible intro hx|exact Is.mk rfl rfl|(with_reducible first|apply Val.via|apply ValH.via)|refine sp ?_|refine vx (by (first|exact vat_hd rfl|exact vat_of rfl rfl rfl|rfl)) ?_|refine GWP.drawY mixed _ (by kernel_rfl) (by rfl) ?_|(first|refine cl (k1 _ rfl) ?_|refine cl (k2 s _ rfl) ?_)|refine sq ?_)))
    (all_goals (first|omega|contradiction|skip))
    all_goals exact Done'.mk ⟨.tp0', rfl⟩
  | false =>
    rw [hi, hno hi] at k1
    rw [if_neg (by decide)]
    refine VCall.go Tryz.func71 rfl ?_
    (repeat' (first|with_reducible refine And.intro ?_ ?_|(with_reducible intro hc;(try simp only [zz] at hc);try exact ct)|exact Is.mk rfl rfl|((conv => whnf);first|with_reducible refine And.intro ?_ ?_|with_reducible intro hx|exact Is.mk rfl rfl|(with_reducible first|apply Val.via|apply ValH.via)|refine sp ?_|refine vx (by (first|exact vat_hd rfl|exact vat_of rfl rfl rfl|rfl)) ?_|refine GWP.drawY mixed _ (by kernel_rfl) (by rfl) ?_|(first|refine cl (k1 _ rfl) ?_|refine cl (k2 s _ rfl) ?_)|refine sq ?_)))
    (all_goals (first|omega|contradiction|skip))
    all_goals exact Done'.mk ⟨.tp0', rfl⟩
theorem pname_call (s : PSt) (hw : WfL s.l) (hn : s.l.length ≤ 100000) : PCall 72 [] s (strV (nmS s).1) (nmS s).2 := by
  refine PCall.of ?_
  have k1 := fun (H : Heap) (hb : H.get 0 = some (pC s)) => PCall.at (nameless_tp (by simp [booV, nameless_sc]; exact nameless_ag (by cases (takeS 1 s).1 <;> exact sgV_ok Nameless nameless_sc _ _))) (by simp [iV, nameless_sc]) (take_call 1 s hw hn) hb
  have k2 := fun s2 (H : Heap) (hb : H.get 0 = some (pC s2)) => PCall.at (nameless_tp (by simp)) (by simp [iV, nameless_sc]) (fail_call s2 2) hb
  unfold nmS
  cases ht : takeS 1 s with
  | mk o s2 =>
    rw [ht] at k1
    cases o with
    | none =>
      simp only [Option.isSome_none] at k1
      refine VCall.go Tryz.func72 rfl ?_
      (repeat' (first|with_reducible refine And.intro ?_ ?_|(with_reducible intro hc;(try simp only [zz] at hc);try exact ct)|exact Is.mk rfl rfl|((conv => whnf);first|with_reducible refine And.intro ?_ ?_|with_reducible intro hx|exact Is.mk rfl rfl|(with_reducible first|apply Val.via|apply ValH.via)|refine sp ?_|refine vx (by (first|exact vat_hd rfl|exact vat_of rfl rfl rfl|rfl)) ?_|refine GWP.drawY mixed _ (by kernel_rfl) (by rfl) ?_|(first|refine cl (k1 _ rfl) ?_|refine cl (k2 s2 _ rfl) ?_)|refine sq ?_)))
      (all_goals (first|omega|contradiction|skip))
      all_goals exact Done'.mk ⟨.of (nameless_strV _), rfl⟩
    | some p =>
      obtain ⟨g, a⟩ := p
      simp only [Option.isSome_some] at k1
      refine VCall.go Tryz.func72 rfl ?_
      (repeat' (first|with_reducible refine And.intro ?_ ?_|(with_reducible intro hc;(try simp only [zz] at hc);try exact ct)|exact Is.mk rfl rfl|((conv => whnf);first|with_reducible refine And.intro ?_ ?_|with_reducible intro hx|exact Is.mk rfl rfl|(with_reducible first|apply Val.via|apply ValH.via)|refine sp ?_|refine vx (by (first|exact vat_hd rfl|exact vat_of rfl rfl rfl|rfl)) ?_|refine GWP.drawY mixed _ (by kernel_rfl) (by rfl) ?_|(first|refine cl (k1 _ rfl) ?_|refine cl (k2 s2 _ rfl) ?_)|refine sq ?_)))
      (all_goals (first|omega|contradiction|skip))
      all_goals exact Done'.mk ⟨.of (nameless_strV _), rfl⟩
end Go.Proofs.YtpbiblhkcomekaaGreat

/- The operators' levels, walked. -/
namespace Go.Proofs.YtpbiblhkcomekaaGreat
open Go Go.RowKit
set_option linter.unusedSimpArgs false
set_option linter.unusedVariables false
set_option maxRecDepth 100000
set_option maxHeartbeats 8000000
def roL (l : List (List UInt8)) : VV := .ro l.length (l.map strV)
def lvR : List VV := [roL (opL 0), roL (opL 1), roL (opL 2), roL (opL 3), roL (opL 4)]
theorem levels_call (H : Heap) : VCall Tryz.prog 162 [] H (fun x K => x = .ro 5 lvR ∧ K = H) := by
  refine VCall.frozen (Q := fun v K => Frz K v (.ro 5 lvR)) (by simp) ?_ (fun v K h => h)
  refine VCall.go Tryz.func162 rfl ?_
  (repeat' (first|with_reducible refine And.intro ?_ ?_|(with_reducible intro hc;(try simp only [zz] at hc);try exact ct)|exact Is.mk rfl rfl|((conv => whnf);first|with_reducible refine And.intro ?_ ?_|with_reducible intro hx|exact Is.mk rfl rfl|(with_reducible first|apply Val.via|apply ValH.via)|refine sp ?_|refine vx (by rfl) ?_|refine GWP.drawY mixed _ (by kernel_rfl) (by rfl) ?_|fail|refine sq ?_)))
  (all_goals (first|omega|contradiction|skip))
  have f1 : ∀ {K : Heap} {b n : Nat} (l : List (List UInt8)), K.get b = some (.cells true (l.map strV)) → n = l.length → Frz K (.sl b 0 n (some n) 1) (roL l) := fun {K b n} l hg hn => by
    subst hn
    have := Frz.sl (K := K) (b := b) (o := 0) (n := l.length) (z := 1) (c := some l.length) hg (by simp) (nameless_map nameless_strV l)
    rw [List.drop_zero, Nat.mul_one, List.take_of_length_le (by simp)] at this
    exact this
  exact Done'.mk (Frz.slL (b := 5) (o := 0) (n := 5) (z := 1) (us := lvR) rfl (by decide) (.cons (f1 (opL 0) rfl rfl) (.cons (f1 (opL 1) rfl rfl) (.cons (f1 (opL 2) rfl rfl) (.cons (f1 (opL 3) rfl rfl) (.cons (f1 (opL 4) rfl rfl) .nil))))))
theorem lv_at {i o : Nat} (hi : i < 5) (ho : o = i) : vat Tryz.prog 28 lvR o = some (roL (opL i)) := by
  subst ho
  have h1 : vagg Tryz.prog 28 = some false := by kernel_rfl
  obtain rfl | rfl | rfl | rfl | rfl : o = 0 ∨ o = 1 ∨ o = 2 ∨ o = 3 ∨ o = 4 := by omega
  all_goals (simp only [vat, h1]; rfl)
theorem op_call (i : Nat) (hi : i < 5) (s : PSt) (hw : WfL s.l) (hn : s.l.length ≤ 100000) : PCall 164 [iV i] s (.tp [strV ((opS (opL i) s).1.getD []), booV (opS (opL i) s).1.isSome]) (opS (opL i) s).2 := by
  refine PCall.of ?_
  generalize hR : opS (opL i) s = R
  refine VCall.go Tryz.func164 rfl ?_
  have hlv := fun o (ho : o = i) => lv_at hi ho
  have hL : (opL i).length ≤ 6 := by
    obtain rfl | rfl | rfl | rfl | rfl : i = 0 ∨ i = 1 ∨ i = 2 ∨ i = 3 ∨ i = 4 := by omega
    all_goals decide
  generalize opL i = L at *
  (repeat' (first|with_reducible refine And.intro ?_ ?_|(with_reducible intro hc;(try simp only [zz] at hc);try exact ct)|exact Is.mk rfl rfl|((conv => whnf);first|with_reducible refine And.intro ?_ ?_|with_reducible intro hx|exact Is.mk rfl rfl|(with_reducible first|apply Val.via|apply ValH.via)|refine sp ?_|refine vx (by (first|exact hlv _ (mul1 rfl rfl)|rfl)) ?_|refine GWP.drawY mixed _ (by kernel_rfl) (by rfl) ?_|(first|refine cl (levels_call _) ?_)|refine sq ?_)))
  (all_goals (first|omega|contradiction|skip))
  (refine GWP'.mk (GWP.loopB [] (fun (j : Nat) => j ≤ L.length ∧ opS (L.drop j) s = R) (fun j => [(13, iV j)]) (fun _ => []) 1 (fun j => L.length - j) 0 ⟨Nat.zero_le _, hR⟩ ?_); (conv => whnf); refine And.intro ?_ ?_)
  · focus (refine ka [] ?_ ?_;all_goals (repeat' (first|exact rz|refine And.intro ?_ ?_|refine Exists.intro _ (And.intro rfl ?_)|refine ro ?_|refine RenL.cons ?_ ?_|fail|exact rv)))
  rintro j ⟨g1, g2⟩
  simp only at g1 g2 ⊢
  by_cases hjl : j < L.length
  · obtain ⟨x, hx⟩ := list_at hjl
    have k1 := fun (H : Heap) (hb : H.get 0 = some (pC s)) => PCall.at (nameless_sc _) (by simp [nameless_strV]) (is_call x s hw hn) hb
    have hd : L.drop j = x :: L.drop (j + 1) := by
      obtain ⟨hi, e⟩ := List.getElem?_eq_some_iff.1 hx
      rw [List.drop_eq_getElem_cons hi, e]
    rw [hd, opS] at g2
    have hno := isS_no (x := x) (s := s)
    cases hc : (isS x s).1 with
    | true =>
      rw [hc, if_pos rfl] at g2
      rw [hc] at k1
      subst g2
      (repeat' (first|with_reducible refine And.intro ?_ ?_|(with_reducible intro hc;(try simp only [zz] at hc);try exact ct)|exact Is.mk rfl rfl|((conv => whnf);first|with_reducible refine And.intro ?_ ?_|with_reducible intro hx|exact Is.mk rfl rfl|(with_reducible first|apply Val.via|apply ValH.via)|refine sp ?_|refine vx (by (first|exact vat_of vagg_str (maps_at hx) (mul1 rfl rfl)|rfl)) ?_|refine GWP.drawY mixed _ (by kernel_rfl) (by rfl) ?_|refine cl (k1 _ rfl) ?_|refine sq ?_)))
      (all_goals (first|omega|contradiction|skip))
      all_goals exact Done'.mk ⟨.of (nameless_tp (by simp [booV, strV, nameless_sc])), rfl⟩
    | false =>
      rw [hc, if_neg (by decide)] at g2
      rw [hc, hno hc] at k1
      (repeat' (first|with_reducible refine And.intro ?_ ?_|(with_reducible intro hc;(try simp only [zz] at hc);try exact ct)|exact Is.mk rfl rfl|((conv => whnf);first|with_reducible refine And.intro ?_ ?_|with_reducible intro hx|exact Is.mk rfl rfl|(with_reducible first|apply Val.via|apply ValH.via)|refine sp ?_|refine vx (by (first|exact vat_of vagg_str (maps_at hx) (mul1 rfl rfl)|rfl)) ?_|refine GWP.drawY mixed _ (by kernel_rfl) (by rfl) ?_|refine cl (k1 _ rfl) ?_|refine sq ?_)))
      (all_goals (first|omega|contradiction|skip))
      focus (refine Done'.mk ⟨j + 1,⟨by omega,g2⟩,?_,ka [] ?_ ?_⟩;(first|omega|(simp only;omega));all_goals (repeat' (first|exact rz|refine And.intro ?_ ?_|refine Exists.intro _ (And.intro rfl ?_)|refine ro ?_|refine RenL.cons ?_ ?_|exact RenV.eq (scI_eq (by omega)) (nameless_sc _)|exact rv)))
  · obtain rfl : j = L.length := by omega
    rw [List.drop_length] at g2
    subst g2
    (repeat' (first|with_reducible refine And.intro ?_ ?_|(with_reducible intro hc;(try simp only [zz] at hc);try exact ct)|exact Is.mk rfl rfl|((conv => whnf);first|with_reducible refine And.intro ?_ ?_|with_reducible intro hx|exact Is.mk rfl rfl|(with_reducible first|apply Val.via|apply ValH.via)|refine sp ?_|refine vx (by rfl) ?_|refine GWP.drawY mixed _ (by kernel_rfl) (by rfl) ?_|fail|refine sq ?_)))
    (all_goals (first|omega|contradiction|skip))
    all_goals exact Done'.mk ⟨.of (nameless_tp (by simp [booV, strV, nameless_sc])), rfl⟩
theorem vat_nd {vs : List VV} {o : Nat} (hl : vs.length = 4) (ho : o = 0) : vat Tryz.prog 63 vs o = some (.ag vs) := by
  have h1 : vagg Tryz.prog 63 = some true := by kernel_rfl
  have h2 : vsize Tryz.prog 63 = some 4 := by kernel_rfl
  subst ho
  have h3 : Nat.ble (0 + 4) vs.length = true := Nat.ble_eq_true_of_le (by omega)
  simp only [vat, h1, h2, h3, List.drop_zero]
  rw [List.take_of_length_le (by omega)]
/-- A slice of one or two nodes that is built: rows that nobody writes. -/
theorem GOp.drawn1 {o : Oper} {ts : List VV} {H : Heap} {i : Nat} {n : Nd} (ho : o.op = .buildSlice 61 1 #[(0, .tmp i)]) (hx : ts[i]? = some (nV n)) (ha : (ts.set i .junk).all scB = true) :
    GOp Tryz.prog o ts H (fun x K' => Is x (.ro 1 (rowsN [n])) K' H) := ⟨by
  obtain ⟨op, tx, nm, ks⟩ := n
  have hn2 : ∀ v ∈ rowsN [.mk op tx nm ks], Nameless v := rowsN_nameless _
  have hv : vop Tryz.prog o ts ⟨[], 0⟩ = some (.sl 0 0 1 (some 1) 4, ⟨[(0, .cells true (rowsN [.mk op tx nm ks]))], 1⟩) := by
    have hz : vsize Tryz.prog 63 = some 4 := by kernel_rfl
    have hl : vzero Tryz.prog 63 = some [.sc (.int .i64 0), .sc (.string ⟨#[]⟩), .sc (.int .i64 0), .sc (.slice none 0 0)] := by kernel_rfl
    have he : veval ts (.tmp i) = .ag [iV op, strV tx, iV nm, .ro ks.length (rowsN ks)] := by simp only [veval, hx, Option.getD_some, nV, cellsN]
    have h1 : cellsOf (.ag [iV op, strV tx, iV nm, .ro ks.length (rowsN ks)]) = some [iV op, strV tx, iV nm, .ro ks.length (rowsN ks)] := rfl
    simp only [vop, ho, vbuildSlice, Tryz.underlying61, hz, hl, List.map_cons, List.map_nil, he, vfill, h1, rowsN, cellsN]
    rfl
  have hn : ∀ v ∈ ts, Nameless v := fun v hv => by
    obtain ⟨j, hj, e⟩ := List.mem_iff_getElem.1 hv
    by_cases hji : j = i
    · subst hji
      rw [List.getElem?_eq_getElem hj, e] at hx
      injection hx with hx
      subst hx
      exact nameless_nV _
    · refine scB_nameless (List.all_eq_true.1 ha v ?_)
      refine List.mem_iff_getElem.2 ⟨j, by simpa using hj, ?_⟩
      rw [List.getElem_set_ne (fun h => hji h.symm)]
      exact e
  refine (VOne.frozen (u := .ro 1 (rowsN [.mk op tx nm ks])) hn hv ?_).mono fun x K' e => ⟨e.1, e.2⟩
  have := Frz.sl (K := ⟨[(0, .cells true (rowsN [.mk op tx nm ks]))], 1⟩) (b := 0) (o := 0) (n := 1) (z := 4) (c := some 1) rfl (by rw [rowsN_len]; simp) hn2
  rw [List.drop_zero, List.take_of_length_le (by rw [rowsN_len]; simp)] at this
  exact this⟩
theorem GOp.drawn2 {o : Oper} {ts : List VV} {H : Heap} {i k : Nat} {n m : Nd} (ho : o.op = .buildSlice 61 2 #[(0, .tmp i), (1, .tmp k)]) (hx : ts[i]? = some (nV n)) (hy : ts[k]? = some (nV m)) (ha : ((ts.set i .junk).set k .junk).all scB = true) :
    GOp Tryz.prog o ts H (fun x K' => Is x (.ro 2 (rowsN [n, m])) K' H) := ⟨by
  obtain ⟨op, tx, nm, ks⟩ := n
  obtain ⟨op2, tx2, nm2, ks2⟩ := m
  have hn2 : ∀ v ∈ rowsN [.mk op tx nm ks, .mk op2 tx2 nm2 ks2], Nameless v := rowsN_nameless _
  have hv : vop Tryz.prog o ts ⟨[], 0⟩ = some (.sl 0 0 2 (some 2) 4, ⟨[(0, .cells true (rowsN [.mk op tx nm ks, .mk op2 tx2 nm2 ks2]))], 1⟩) := by
    have hz : vsize Tryz.prog 63 = some 4 := by kernel_rfl
    have hl : vzero Tryz.prog 63 = some [.sc (.int .i64 0), .sc (.string ⟨#[]⟩), .sc (.int .i64 0), .sc (.slice none 0 0)] := by kernel_rfl
    have he : veval ts (.tmp i) = .ag [iV op, strV tx, iV nm, .ro ks.length (rowsN ks)] := by simp only [veval, hx, Option.getD_some, nV, cellsN]
    have he2 : veval ts (.tmp k) = .ag [iV op2, strV tx2, iV nm2, .ro ks2.length (rowsN ks2)] := by simp only [veval, hy, Option.getD_some, nV, cellsN]
    have h1 : cellsOf (.ag [iV op, strV tx, iV nm, .ro ks.length (rowsN ks)]) = some [iV op, strV tx, iV nm, .ro ks.length (rowsN ks)] := rfl
    have h2 : cellsOf (.ag [iV op2, strV tx2, iV nm2, .ro ks2.length (rowsN ks2)]) = some [iV op2, strV tx2, iV nm2, .ro ks2.length (rowsN ks2)] := rfl
    simp only [vop, ho, vbuildSlice, Tryz.underlying61, hz, hl, List.map_cons, List.map_nil, he, he2, vfill, h1, h2, rowsN, cellsN]
    rfl
  have hn : ∀ v ∈ ts, Nameless v := fun v hv => by
    obtain ⟨j, hj, e⟩ := List.mem_iff_getElem.1 hv
    by_cases hji : j = i
    · subst hji
      rw [List.getElem?_eq_getElem hj, e] at hx
      injection hx with hx
      subst hx
      exact nameless_nV _
    · by_cases hjk : j = k
      · subst hjk
        rw [List.getElem?_eq_getElem hj, e] at hy
        injection hy with hy
        subst hy
        exact nameless_nV _
      · refine scB_nameless (List.all_eq_true.1 ha v ?_)
        refine List.mem_iff_getElem.2 ⟨j, by simpa using hj, ?_⟩
        rw [List.getElem_set_ne (fun h => hjk h.symm), List.getElem_set_ne (fun h => hji h.symm)]
        exact e
  refine (VOne.frozen (u := .ro 2 (rowsN [.mk op tx nm ks, .mk op2 tx2 nm2 ks2])) hn hv ?_).mono fun x K' e => ⟨e.1, e.2⟩
  have := Frz.sl (K := ⟨[(0, .cells true (rowsN [.mk op tx nm ks, .mk op2 tx2 nm2 ks2]))], 1⟩) (b := 0) (o := 0) (n := 2) (z := 4) (c := some 2) rfl (by rw [rowsN_len]; simp) hn2
  rw [List.drop_zero, List.take_of_length_le (by rw [rowsN_len]; simp)] at this
  exact this⟩
end Go.Proofs.YtpbiblhkcomekaaGreat

