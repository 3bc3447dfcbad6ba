/- Calls that are given named blocks which stay as they are: what else they made is taken as rows that nobody writes any more. Over any program. -/
import Derived.Test.YtbnemkdkeaiaoaaVd
import Derived.Test.YtbnemkdkeaiaoaaVg
namespace Go.Proofs.Ytbnemkdkeaiaoaa
open Go Go.RowKit
set_option linter.unusedSimpArgs false
set_option linter.unusedVariables false
/-- As Frz, but names below n stand for what they stood for. -/
def FrzB (n : Nat) (K : Heap) (v u : VV) : Prop := ∀ (B w : World) (Z : Nat → Prop) (ρ ρ0 : Nat → Option (Nat × Nat)) (y : Value), Rel B (fun _ => False) Z ρ K w → (∀ b, b < n → ρ0 b = ρ b) → VRel w Z ρ v y → VRel w (fun k => Z k ∨ (B.heap.size ≤ k ∧ k < w.heap.size)) ρ0 u y
theorem Frz.toB {n : Nat} {K : Heap} {v u : VV} (h : Frz K v u) : FrzB n K v u := fun B w Z ρ ρ0 y hr _ hv => h B w Z ρ ρ0 y hr hv
theorem FrzB.sl {n b o m z : Nat} {c : Option Nat} {K : Heap} (hb : b < n) : FrzB n K (.sl b o m c z) (.sl b o m c z) := fun B w Z ρ ρ0 y hr he hv => by
  cases hv with
  | sl hk hn hc hz => exact .sl ((he b hb).trans hk) hn hc hz
theorem FrzB.of {n : Nat} {K : Heap} {v : VV} (h : Nameless v) : FrzB n K v v := (Frz.of h).toB
theorem FrzB.tp2 {n : Nat} {K : Heap} {a b c d : VV} (h : FrzB n K a c) (g : FrzB n K b d) : FrzB n K (.tp [a, b]) (.tp [c, d]) := fun B w Z ρ ρ0 y hr he hv => by
  cases hv with
  | @tp _ cs h1 r1 =>
    obtain ⟨cs⟩ := cs
    match cs, h1 with
    | [p, q], _ => exact VRel.tp' (Pw.cons (h B w Z ρ ρ0 p hr he (r1 0 _ _ rfl rfl)) (Pw.cons (g B w Z ρ ρ0 q hr he (r1 1 _ _ rfl rfl)) Pw.nil))
theorem VCall.trimB {P : Program} {f : FuncId} {args : List VV} {O1 : List (Nat × VObj)} {n1 : Nat} {Q : VV → Heap → Prop} {Q' : VV → Prop}
    (hO : ∀ b x, hget O1 b = some x → ∃ vs, (x = .cells true vs ∨ x = .opt vs) ∧ ∀ v ∈ vs, Nameless v) (h : VCall P f args ⟨O1, n1⟩ Q)
    (hv : ∀ v K, Q v K → (∀ b x, hget O1 b = some x → K.get b = some x) ∧ ∃ u, Q' u ∧ FrzB n1 ⟨restO (O1.map (·.1)) K.objs, K.next⟩ v u) :
    VCall P f args ⟨O1, n1⟩ (fun u K => Q' u ∧ K = ⟨O1, n1⟩) := fun B M Z ρ w ra h1 h2 => by
  refine (h w (Mine ⟨O1, n1⟩ ρ) Z ρ w ra (h1.part rfl fun _ _ h => h) h2).mono ?_
  rintro e w' ⟨v', v, K, Z', ρ', rfl, q, e1, r1, v1⟩
  obtain ⟨hk, u, q', hf⟩ := hv v K q
  have mine : ∀ k, Mine ⟨O1, n1⟩ ρ k → B.heap.size ≤ k ∨ M k := fun k ⟨b, x, N, m1, m2, m3⟩ => by
    obtain ⟨k', N', o, g1, g2, g3, g4, g5⟩ := h1.objK m1 m3
    rw [m3] at g1; injection g1 with g1; injection g1 with g1 g1'; subst g1
    exact g5 m2
  have zz : ∀ k, Z' k → Z k ∨ (w.heap.size ≤ k ∧ k < w'.heap.size) := fun k hkz => by
    rcases e1.znew k hkz with g | g | g | ⟨b, x, N, m1, m2, m3⟩
    · exact .inl g
    · exact .inr ⟨g, r1.zlt k hkz⟩
    · exact .inr ⟨g, r1.zlt k hkz⟩
    · obtain ⟨k', N', o, g1, g2, g3, g4, g5⟩ := r1.objK (hk b x m1) (e1.rsub _ _ m3)
      rw [e1.rsub _ _ m3] at g1; injection g1 with g1; injection g1 with g1 g1'; subst g1
      exact absurd hkz g4
  have hsz := e1.size
  refine ⟨v', u, ⟨O1, n1⟩, fun k => Z k ∨ (w.heap.size ≤ k ∧ k < w'.heap.size), ρ, rfl, ⟨q', rfl⟩, ⟨Nat.le_refl _, fun _ _ => rfl, fun _ h => .inl h, fun _ _ h => h, e1.keep, e1.size, fun k hk => hk.imp id fun q => .inl q.1⟩, ⟨h1.glob, r1.os.trans h1.os, r1.tape.trans h1.tape, r1.output.trans h1.output, Nat.le_trans h1.size r1.size, ?_, h1.dom, h1.live, h1.inj, ?_, ?_⟩, ?_⟩
  · intro k hkb hM
    have hs1 := h1.size
    rw [r1.frame k (by omega) (fun hm => (mine k hm).elim (fun q => by omega) hM)]
    exact h1.frame k hkb hM
  · intro b x hx
    rcases h1.obj b x hx with hg | ⟨k, N, o, g1, g2, g3, g4, g5⟩
    · exact .inl hg
    have hlt := h1.lt hx g1
    obtain ⟨k', N', o', f1, f2, f3, f4, f5⟩ := r1.objK (hk b x hx) (e1.rsub _ _ g1)
    have f0 := e1.rsub _ _ g1
    rw [f0] at f1; injection f1 with f1; injection f1 with f1 f1'; subst f1 f1'
    refine .inr ⟨k, N, o', g1, f2, ?_, fun hz => hz.elim g4 (fun q => by omega), g5⟩
    obtain ⟨vs, hx2, hn⟩ := hO b x hx
    rcases hx2 with rfl | rfl
    · obtain ⟨cs, t, fr, h0, h4, h2, h3⟩ := f3
      exact ⟨cs, t, fr, h0, h4, fun i u hu => let ⟨c, hc, hr⟩ := h2 i u hu; ⟨c, hc, (hn u (List.mem_of_getElem? hu) _ _ _ _ _ hr).zmono zz⟩, h3⟩
    · obtain ⟨cs, t, fr, h0, h4, h2, h3⟩ := f3
      exact ⟨cs, t, fr, h0, h4, fun i u hu => let ⟨c, hc, hr⟩ := h2 i u hu; ⟨c, hc, (hn u (List.mem_of_getElem? hu) _ _ _ _ _ hr).zmono zz⟩, h3⟩
  · intro k hkz
    rcases hkz with hkz | hkz
    · have := h1.zlt k hkz; omega
    · exact hkz.2
  · have hget : ∀ b, (⟨restO (O1.map (·.1)) K.objs, K.next⟩ : Heap).get b = match memN b (O1.map (·.1)) with
      | true => none
      | false => K.get b := fun b => hget_restO _ b _
    have hsub : ∀ b x, (⟨restO (O1.map (·.1)) K.objs, K.next⟩ : Heap).get b = some x → K.get b = some x ∧ memN b (O1.map (·.1)) = false := fun b x hx => by
      rw [hget] at hx
      split at hx
      · cases hx
      · rename_i hm; exact ⟨hx, hm⟩
    have hBs : ({ w' with heap := w'.heap.extract 0 w.heap.size } : World).heap.size = w.heap.size := by
      show (w'.heap.extract 0 w.heap.size).size = _
      rw [Array.size_extract]; omega
    have hBk : ∀ k, k < w.heap.size → ({ w' with heap := w'.heap.extract 0 w.heap.size } : World).heap[k]? = w'.heap[k]? := fun k hk => by
      show (w'.heap.extract 0 w.heap.size)[k]? = _
      rw [Array.getElem?_extract, if_pos (by omega), Nat.zero_add]
    have hr : Rel { w' with heap := w'.heap.extract 0 w.heap.size } (fun _ => False) Z' ρ' ⟨restO (O1.map (·.1)) K.objs, K.next⟩ w' := by
      refine ⟨fun w2 a b c d e => ?_, rfl, rfl, rfl, by rw [hBs]; exact hsz, fun k hk _ => (hBk k (by rw [hBs] at hk; exact hk)).symm, r1.dom, fun b x hx => r1.live b x (hsub b x hx).1, fun b b' k N N' x x' hx hx' => r1.inj b b' k N N' x x' (hsub b x hx).1 (hsub b' x' hx').1, fun b x hx => ?_, r1.zlt⟩
      · refine r1.glob w2 (a.trans r1.os) (b.trans r1.tape) (c.trans r1.output) (by rw [hBs] at d; exact d) fun k hk hm => ?_
        rw [e k (by rw [hBs]; exact hk) id, hBk k hk]
        exact r1.frame k hk hm
      · obtain ⟨hx1, hx2⟩ := hsub b x hx
        rcases r1.obj b x hx1 with hg | ⟨k, N, o, g1, g2, g3, g4, g5⟩
        · exact .inl hg
        refine .inr ⟨k, N, o, g1, g2, g3, g4, fun hrw => .inl ?_⟩
        rw [hBs]
        refine (g5 hrw).resolve_right ?_
        rintro ⟨b0, x0, N0, m1, m2, m3⟩
        have := r1.inj b b0 k N N0 x x0 hx1 (hk b0 x0 m1) g1 (e1.rsub _ _ m3)
        subst this
        have hin : b ∈ O1.map (·.1) := by
          have key : ∀ (l : List (Nat × VObj)), Go.Proofs.Ytbnemkdkeaiaoaa.hget l b = some x0 → b ∈ l.map (·.1) := by
            intro l
            induction l with
            | nil => intro h; simp [Go.Proofs.Ytbnemkdkeaiaoaa.hget] at h
            | cons p r ih =>
              obtain ⟨k, y⟩ := p
              intro h
              rw [hget_cons] at h
              split at h
              · rename_i e; subst e; simp
              · exact List.mem_cons_of_mem _ (ih h)
          exact key _ m1
        rw [memN_iff.2 hin] at hx2
        cases hx2
    refine (hf _ w' Z' ρ' ρ v' hr (fun b hb => (e1.rold b hb).symm) v1).zmono fun k hk => ?_
    rcases hk with hk | hk
    · exact zz k hk
    · rw [hBs] at hk; exact .inr hk
/-- A part of a named text. -/
def PartB (b : Nat) (t : List UInt8) (u : VV) (l : List UInt8) : Prop := (∃ q m, u = .sl b q m none 1 ∧ q + m ≤ t.length ∧ (t.drop q).take m = l) ∨ (l = [] ∧ (u = .ro 0 [] ∨ u = .sc (.slice none 0 0)))
theorem PartB.view {b : Nat} {t l : List UInt8} {u : VV} {H : Heap} (h : PartB b t u l) (hg : H.get b = some (.cells true (t.map bV))) : View H u (roB l) := by
  rcases h with ⟨q, m, rfl, hq, rfl⟩ | ⟨rfl, rfl | rfl⟩
  · have := View.sl (H := H) (b := b) (o := q) (n := m) (z := 1) (c := none) hg (by simp; omega) (nameless_map nameless_bV t)
    have e : VV.ro m (((t.map bV).drop q).take (m * 1)) = roB ((t.drop q).take m) := by
      unfold roB
      simp only [Nat.mul_one, List.map_take, List.map_drop, List.length_take, List.length_drop]
      rw [Nat.min_eq_left (by omega)]
    rwa [e] at this
  · exact View.of (nameless_roB [])
  · intro B w M Z ρ y hr hv
    cases hv with
    | sc _ => exact .ro0
theorem PartB.frz {b n : Nat} {t l : List UInt8} {u : VV} {K : Heap} (h : PartB b t u l) (hb : b < n) : FrzB n K u u := by
  rcases h with ⟨q, m, rfl, hq, rfl⟩ | ⟨rfl, rfl | rfl⟩
  · exact .sl hb
  · exact .of (nameless_roB [])
  · exact .of (nameless_sc _)
/-- A part of a slice of known place. -/
theorem GOp'.slQ {P : Program} {o : Oper} {ts : List VV} {H : Heap} {K : VV → Heap → Prop} {t e : TypeId} {x : Operand} {lo hi : Option Operand} {b q n l h : Nat} (ho : o.op = .slice t x lo hi none) (hu : P.underlying t = some (.slice e)) (hz : vsize P e = some 1) (hx : veval ts x = .sl b q n none 1) (hb : vbounds n n (lo.map (veval ts)) (hi.map (veval ts)) none = some (l, h, none)) (hlh : l ≤ h)
    (k : ∀ u, (u = .sl b (q + l) (h - l) none 1 ∨ (u = .ro 0 [] ∧ l = h ∧ 0 < l)) → K u H) : GOp' P o ts H K := by
  by_cases h0 : l = 0
  · subst h0
    refine GOp'.via (v := .sl b q h none 1) (H' := H) ?_ (k _ (.inl rfl))
    simp only [vop, ho, hx]
    simp [vslice, hu, hz, hb]
    rfl
  · by_cases hl : l = h
    · subst hl
      refine GOp'.via (v := .ro 0 []) (H' := H) ?_ (k _ (.inr ⟨rfl, rfl, by omega⟩))
      simp only [vop, ho, hx]
      simp [vslice, hu, hz, hb, h0]
      rfl
    · refine GOp'.via (v := .sl b (q + l * 1) (h - l) none 1) (H' := H) ?_ (k _ (.inl (by rw [Nat.mul_one])))
      simp only [vop, ho, hx]
      simp [vslice, hu, hz, hb, h0, show ¬ h = l by omega]
      rfl
theorem GOp'.slP {P : Program} {o : Oper} {ts : List VV} {H : Heap} {K : VV → Heap → Prop} {t e : TypeId} {x : Operand} {lo hi : Option Operand} {b q n h : Nat} (ho : o.op = .slice t x lo hi none) (hu : P.underlying t = some (.slice e)) (hz : vsize P e = some 1) (hx : veval ts x = .sl b q n none 1) (hb : vbounds n n (lo.map (veval ts)) (hi.map (veval ts)) none = some (0, h, none)) (k : K (.sl b q h none 1) H) : GOp' P o ts H K :=
  GOp'.slQ (l := 0) ho hu hz hx hb (Nat.zero_le _) fun u hu => by
    rcases hu with rfl | ⟨_, _, h⟩
    · exact k
    · omega
/-- A slice that may be nil, by its whole block. -/
theorem hset_back : ∀ (O : List (Nat × VObj)) (b : Nat) (x y : VObj), hget O b = some y → hset (hset O b x) b y = O
  | [], b, x, y, h => by simp [hget] at h
  | (k, o) :: r, b, x, y, h => by
    rw [hget_cons] at h
    rcases beq_cases k b with ⟨h1, e⟩ | ⟨h1, e⟩
    · rw [if_pos e] at h
      injection h with h
      subst h
      simp only [hset, h1]
    · rw [if_neg e] at h
      simp only [hset, h1, hset_back r b x y h]
theorem VCall.gsB {P : Program} {f : FuncId} {H : Heap} {Q : VV → Prop} {b n z : Nat} {vs : List VV} (hg : H.get b = some (.opt vs)) (hn : n ≠ 0) (h : VCall P f [.sl b 0 n none z] (H.set b (.cells true vs)) (fun v K => Q v ∧ K = H.set b (.cells true vs))) : VCall P f [.gs b n z] H (fun v K => Q v ∧ K = H) :=
  fun B M Z ρ w ra h1 h2 => by
    have hb : (H.set b (.cells true vs)).get b = some (.cells true vs) := by rw [Heap.get_set, if_pos rfl, hg]; rfl
    have e2 : (H.set b (.cells true vs)).set b (.opt vs) = H := by
      obtain ⟨O, nx⟩ := H
      show Heap.mk (hset (hset O b _) b _) nx = _
      rw [hset_back O b _ _ hg]
    obtain ⟨hlen, hrel⟩ := h2
    match hra : ra.toList, hlen with
    | [y], _ =>
      have hv := hrel 0 _ y rfl (by rw [hra]; rfl)
      cases hv with
      | gs0 => exact absurd rfl hn
      | gs hk hcap hz h0 =>
        refine (h B M Z ρ w ra (h1.toCells hg hk) ⟨by rw [hra]; rfl, fun i u x hu hx => ?_⟩).mono fun e w' ⟨v', v, K, Z', ρ', he, ⟨q1, q2⟩, e1, r1, v1⟩ => ?_
        · rw [hra] at hx
          cases i with
          | zero =>
            simp at hu hx
            subst hu hx
            exact .sl hk hcap (fun _ e => by cases e) (fun _ => by omega)
          | succ i => simp at hu
        · subst q2
          have r2 := r1.toOpt hb
          rw [e2] at r2
          exact ⟨v', v, H, Z', ρ', he, ⟨q1, rfl⟩, e1, r2, v1⟩
end Go.Proofs.Ytbnemkdkeaiaoaa
