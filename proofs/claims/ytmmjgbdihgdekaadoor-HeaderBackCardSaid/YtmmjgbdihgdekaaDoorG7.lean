import Derived.Test.YtmmjgbdihgdekaaDoorE5
import Derived.Test.YtmmjgbdihgdekaaDoorE6
import Derived.Test.YtmmjgbdihgdekaaDoorG4
/- Calls that are given named blocks which stay as they are: what else they made is taken as rows that nobody writes any more. Over any program. -/
namespace Go.Proofs.YtmmjgbdihgdekaaDoor
open Go Go.RowKit
set_option linter.unusedSimpArgs false
set_option linter.unusedVariables false
/-- As Frz, but names below n stand for what they stood for. -/
def FrzB (n : Nat) (K : Heap) (v u : VV) : Prop := ∀ (B w : World) (Z : Nat → Prop) (ρ ρ0 : Nat → Option (Nat × Nat)) (y : Value), Rel B (fun _ => False) Z ρ K w → (∀ b, b < n → ρ0 b = ρ b) → VRel w Z ρ v y → VRel w (fun k => Z k ∨ (B.heap.size ≤ k ∧ k < w.heap.size)) ρ0 u y
theorem Frz.toB {n : Nat} {K : Heap} {v u : VV} (h : Frz K v u) : FrzB n K v u := fun B w Z ρ ρ0 y hr _ hv => h B w Z ρ ρ0 y hr hv
theorem FrzB.sl {n b o m z : Nat} {c : Option Nat} {K : Heap} (hb : b < n) : FrzB n K (.sl b o m c z) (.sl b o m c z) := fun B w Z ρ ρ0 y hr he hv => by
  cases hv with
  | sl hk hn hc hz => exact .sl ((he b hb).trans hk) hn hc hz
theorem FrzB.of {n : Nat} {K : Heap} {v : VV} (h : Nameless v) : FrzB n K v v := (Frz.of h).toB
theorem FrzB.tp2 {n : Nat} {K : Heap} {a b c d : VV} (h : FrzB n K a c) (g : FrzB n K b d) : FrzB n K (.tp [a, b]) (.tp [c, d]) := fun B w Z ρ ρ0 y hr he hv => by
  cases hv with
  | @tp _ cs h1 r1 =>
    obtain ⟨cs⟩ := cs
    match cs, h1 with
    | [p, q], _ => exact VRel.tp' (Pw.cons (h B w Z ρ ρ0 p hr he (r1 0 _ _ rfl rfl)) (Pw.cons (g B w Z ρ ρ0 q hr he (r1 1 _ _ rfl rfl)) Pw.nil))
theorem VCall.trimB {P : Program} {f : FuncId} {args : List VV} {O1 : List (Nat × VObj)} {n1 : Nat} {Q : VV → Heap → Prop} {Q' : VV → Prop}
    (hO : ∀ b x, hget O1 b = some x → ∃ vs, (x = .cells true vs ∨ x = .opt vs) ∧ ∀ v ∈ vs, Nameless v) (h : VCall P f args ⟨O1, n1⟩ Q)
    (hv : ∀ v K, Q v K → (∀ b x, hget O1 b = some x → K.get b = some x) ∧ ∃ u, Q' u ∧ FrzB n1 ⟨restO (O1.map (·.1)) K.objs, K.next⟩ v u) :
    VCall P f args ⟨O1, n1⟩ (fun u K => Q' u ∧ K = ⟨O1, n1⟩) := fun B M Z ρ w ra h1 h2 => by
  refine (h w (Mine ⟨O1, n1⟩ ρ) Z ρ w ra (h1.part rfl fun _ _ h => h) h2).mono ?_
  rintro e w' ⟨v', v, K, Z', ρ', rfl, q, e1, r1, v1⟩
  obtain ⟨hk, u, q', hf⟩ := hv v K q
  have mine : ∀ k, Mine ⟨O1, n1⟩ ρ k → B.heap.size ≤ k ∨ M k := fun k ⟨b, x, N, m1, m2, m3⟩ => by
    obtain ⟨k', N', o, g1, g2, g3, g4, g5⟩ := h1.objK m1 m3
    rw [m3] at g1; injection g1 with g1; injection g1 with g1 g1'; subst g1
    exact g5 m2
  have zz : ∀ k, Z' k → Z k ∨ (w.heap.size ≤ k ∧ k < w'.heap.size) := fun k hk => (e1.znew k hk).imp id fun g => ⟨g, r1.zlt k hk⟩
  have hsz := e1.size
  refine ⟨v', u, ⟨O1, n1⟩, fun k => Z k ∨ (w.heap.size ≤ k ∧ k < w'.heap.size), ρ, rfl, ⟨q', rfl⟩, ⟨Nat.le_refl _, fun _ _ => rfl, fun _ h => .inl h, fun _ _ h => h, e1.keep, e1.size, fun k hk => hk.imp id And.left⟩, ⟨h1.glob, r1.os.trans h1.os, r1.tape.trans h1.tape, r1.output.trans h1.output, Nat.le_trans h1.size r1.size, ?_, h1.dom, h1.live, h1.inj, ?_, ?_⟩, ?_⟩
  · intro k hkb hM
    have hs1 := h1.size
    rw [r1.frame k (by omega) (fun hm => (mine k hm).elim (fun q => by omega) hM)]
    exact h1.frame k hkb hM
  · intro b x hx
    rcases h1.obj b x hx with hg | ⟨k, N, o, g1, g2, g3, g4, g5⟩
    · exact .inl hg
    have hlt := h1.lt hx g1
    obtain ⟨k', N', o', f1, f2, f3, f4, f5⟩ := r1.objK (hk b x hx) (e1.rsub _ _ g1)
    have f0 := e1.rsub _ _ g1
    rw [f0] at f1; injection f1 with f1; injection f1 with f1 f1'; subst f1 f1'
    refine .inr ⟨k, N, o', g1, f2, ?_, fun hz => hz.elim g4 (fun q => by omega), g5⟩
    obtain ⟨vs, hx2, hn⟩ := hO b x hx
    rcases hx2 with rfl | rfl
    · obtain ⟨cs, t, fr, h0, h4, h2, h3⟩ := f3
      exact ⟨cs, t, fr, h0, h4, fun i u hu => let ⟨c, hc, hr⟩ := h2 i u hu; ⟨c, hc, (hn u (List.mem_of_getElem? hu) _ _ _ _ _ hr).zmono zz⟩, h3⟩
    · obtain ⟨cs, t, fr, h0, h4, h2, h3⟩ := f3
      exact ⟨cs, t, fr, h0, h4, fun i u hu => let ⟨c, hc, hr⟩ := h2 i u hu; ⟨c, hc, (hn u (List.mem_of_getElem? hu) _ _ _ _ _ hr).zmono zz⟩, h3⟩
  · intro k hkz
    rcases hkz with hkz | hkz
    · have := h1.zlt k hkz; omega
    · exact hkz.2
  · have hget : ∀ b, (⟨restO (O1.map (·.1)) K.objs, K.next⟩ : Heap).get b = match memN b (O1.map (·.1)) with
      | true => none
      | false => K.get b := fun b => hget_restO _ b _
    have hsub : ∀ b x, (⟨restO (O1.map (·.1)) K.objs, K.next⟩ : Heap).get b = some x → K.get b = some x ∧ memN b (O1.map (·.1)) = false := fun b x hx => by
      rw [hget] at hx
      split at hx
      · cases hx
      · rename_i hm; exact ⟨hx, hm⟩
    have hBs : ({ w' with heap := w'.heap.extract 0 w.heap.size } : World).heap.size = w.heap.size := by
      show (w'.heap.extract 0 w.heap.size).size = _
      rw [Array.size_extract]; omega
    have hBk : ∀ k, k < w.heap.size → ({ w' with heap := w'.heap.extract 0 w.heap.size } : World).heap[k]? = w'.heap[k]? := fun k hk => by
      show (w'.heap.extract 0 w.heap.size)[k]? = _
      rw [Array.getElem?_extract, if_pos (by omega), Nat.zero_add]
    have hr : Rel { w' with heap := w'.heap.extract 0 w.heap.size } (fun _ => False) Z' ρ' ⟨restO (O1.map (·.1)) K.objs, K.next⟩ w' := by
      refine ⟨fun w2 a b c d e => ?_, rfl, rfl, rfl, by rw [hBs]; exact hsz, fun k hk _ => (hBk k (by rw [hBs] at hk; exact hk)).symm, r1.dom, fun b x hx => r1.live b x (hsub b x hx).1, fun b b' k N N' x x' hx hx' => r1.inj b b' k N N' x x' (hsub b x hx).1 (hsub b' x' hx').1, fun b x hx => ?_, r1.zlt⟩
      · refine r1.glob w2 (a.trans r1.os) (b.trans r1.tape) (c.trans r1.output) (by rw [hBs] at d; exact d) fun k hk hm => ?_
        rw [e k (by rw [hBs]; exact hk) id, hBk k hk]
        exact r1.frame k hk hm
      · obtain ⟨hx1, hx2⟩ := hsub b x hx
        rcases r1.obj b x hx1 with hg | ⟨k, N, o, g1, g2, g3, g4, g5⟩
        · exact .inl hg
        refine .inr ⟨k, N, o, g1, g2, g3, g4, fun hrw => .inl ?_⟩
        rw [hBs]
        refine (g5 hrw).resolve_right ?_
        rintro ⟨b0, x0, N0, m1, m2, m3⟩
        have := r1.inj b b0 k N N0 x x0 hx1 (hk b0 x0 m1) g1 (e1.rsub _ _ m3)
        subst this
        have hin : b ∈ O1.map (·.1) := by
          have key : ∀ (l : List (Nat × VObj)), Go.Proofs.YtmmjgbdihgdekaaDoor.hget l b = some x0 → b ∈ l.map (·.1) := by
            intro l
            induction l with
            | nil => intro h; simp [Go.Proofs.YtmmjgbdihgdekaaDoor.hget] at h
            | cons p r ih =>
              obtain ⟨k, y⟩ := p
              intro h
              rw [hget_cons] at h
              split at h
              · rename_i e; subst e; simp
              · exact List.mem_cons_of_mem _ (ih h)
          exact key _ m1
        rw [memN_iff.2 hin] at hx2
        cases hx2
    refine (hf _ w' Z' ρ' ρ v' hr (fun b hb => (e1.rold b hb).symm) v1).zmono fun k hk => ?_
    rcases hk with hk | hk
    · exact zz k hk
    · rw [hBs] at hk; exact .inr hk
/-- A part of a named text. -/
def PartB (b : Nat) (t : List UInt8) (u : VV) (l : List UInt8) : Prop := (∃ q m, u = .sl b q m none 1 ∧ q + m ≤ t.length ∧ (t.drop q).take m = l) ∨ (l = [] ∧ (u = .ro 0 [] ∨ u = .sc (.slice none 0 0)))
theorem PartB.frz {b n : Nat} {t l : List UInt8} {u : VV} {K : Heap} (h : PartB b t u l) (hb : b < n) : FrzB n K u u := by
  rcases h with ⟨q, m, rfl, hq, rfl⟩ | ⟨rfl, rfl | rfl⟩
  · exact .sl hb
  · exact .of (nameless_roB [])
  · exact .of (nameless_sc _)
/-- A part of a slice of known place. -/
theorem GOp'.slQ {P : Program} {o : Oper} {ts : List VV} {H : Heap} {K : VV → Heap → Prop} {t e : TypeId} {x : Operand} {lo hi : Option Operand} {b q n l h : Nat} (ho : o.op = .slice t x lo hi none) (hu : P.underlying t = some (.slice e)) (hz : vsize P e = some 1) (hx : veval ts x = .sl b q n none 1) (hb : vbounds n n (lo.map (veval ts)) (hi.map (veval ts)) none = some (l, h, none)) (hlh : l ≤ h)
    (k : ∀ u, (u = .sl b (q + l) (h - l) none 1 ∨ (u = .ro 0 [] ∧ l = h ∧ 0 < l)) → K u H) : GOp' P o ts H K := by
  by_cases h0 : l = 0
  · subst h0
    refine GOp'.via (v := .sl b q h none 1) (H' := H) ?_ (k _ (.inl rfl))
    simp only [vop, ho, hx]
    simp [vslice, hu, hz, hb]
    rfl
  · by_cases hl : l = h
    · subst hl
      refine GOp'.via (v := .ro 0 []) (H' := H) ?_ (k _ (.inr ⟨rfl, rfl, by omega⟩))
      simp only [vop, ho, hx]
      simp [vslice, hu, hz, hb, h0]
      rfl
    · refine GOp'.via (v := .sl b (q + l * 1) (h - l) none 1) (H' := H) ?_ (k _ (.inl (by rw [Nat.mul_one])))
      simp only [vop, ho, hx]
      simp [vslice, hu, hz, hb, h0, show ¬ h = l by omega]
      rfl
theorem GOp'.slP {P : Program} {o : Oper} {ts : List VV} {H : Heap} {K : VV → Heap → Prop} {t e : TypeId} {x : Operand} {lo hi : Option Operand} {b q n h : Nat} (ho : o.op = .slice t x lo hi none) (hu : P.underlying t = some (.slice e)) (hz : vsize P e = some 1) (hx : veval ts x = .sl b q n none 1) (hb : vbounds n n (lo.map (veval ts)) (hi.map (veval ts)) none = some (0, h, none)) (k : K (.sl b q h none 1) H) : GOp' P o ts H K :=
  GOp'.slQ (l := 0) ho hu hz hx hb (Nat.zero_le _) fun u hu => by
    rcases hu with rfl | ⟨_, _, h⟩
    · exact k
    · omega
/-- A slice that may be nil, by its whole block. -/
theorem hset_back : ∀ (O : List (Nat × VObj)) (b : Nat) (x y : VObj), hget O b = some y → hset (hset O b x) b y = O
  | [], b, x, y, h => by simp [hget] at h
  | (k, o) :: r, b, x, y, h => by
    rw [hget_cons] at h
    rcases beq_cases k b with ⟨h1, e⟩ | ⟨h1, e⟩
    · rw [if_pos e] at h
      injection h with h
      subst h
      simp only [hset, h1]
    · rw [if_neg e] at h
      simp only [hset, h1, hset_back r b x y h]
theorem VCall.gsB {P : Program} {f : FuncId} {H : Heap} {Q : VV → Prop} {b n z : Nat} {vs : List VV} (hg : H.get b = some (.opt vs)) (hn : n ≠ 0) (h : VCall P f [.sl b 0 n none z] (H.set b (.cells true vs)) (fun v K => Q v ∧ K = H.set b (.cells true vs))) : VCall P f [.gs b n z] H (fun v K => Q v ∧ K = H) :=
  fun B M Z ρ w ra h1 h2 => by
    have hb : (H.set b (.cells true vs)).get b = some (.cells true vs) := by rw [Heap.get_set, if_pos rfl, hg]; rfl
    have e2 : (H.set b (.cells true vs)).set b (.opt vs) = H := by
      obtain ⟨O, nx⟩ := H
      show Heap.mk (hset (hset O b _) b _) nx = _
      rw [hset_back O b _ _ hg]
    obtain ⟨hlen, hrel⟩ := h2
    match hra : ra.toList, hlen with
    | [y], _ =>
      have hv := hrel 0 _ y rfl (by rw [hra]; rfl)
      cases hv with
      | gs0 => exact absurd rfl hn
      | gs hk hcap hz h0 =>
        refine (h B M Z ρ w ra (h1.toCells hg hk) ⟨by rw [hra]; rfl, fun i u x hu hx => ?_⟩).mono fun e w' ⟨v', v, K, Z', ρ', he, ⟨q1, q2⟩, e1, r1, v1⟩ => ?_
        · rw [hra] at hx
          cases i with
          | zero =>
            simp at hu hx
            subst hu hx
            exact .sl hk hcap (fun _ e => by cases e) (fun _ => by omega)
          | succ i => simp at hu
        · subst q2
          have r2 := r1.toOpt hb
          rw [e2] at r2
          exact ⟨v', v, H, Z', ρ', he, ⟨q1, rfl⟩, e1, r2, v1⟩
end Go.Proofs.YtmmjgbdihgdekaaDoor

/- split of a named text. -/
namespace Go.Proofs.YtmmjgbdihgdekaaDoor
open Go Go.RowKit
set_option linter.unusedSimpArgs false
set_option linter.unusedVariables false
set_option maxRecDepth 100000
set_option maxHeartbeats 4000000
theorem viewQ {t : List UInt8} {q m b : Nat} {c : Option Nat} {H : Heap} (hg : H.get b = some (.cells true (t.map bV))) (hl : q + m ≤ t.length) : View H (.sl b q m c 1) (roB ((t.drop q).take m)) := by
  have := View.sl (H := H) (b := b) (o := q) (n := m) (z := 1) (c := c) hg (by simp; omega) (nameless_map nameless_bV t)
  have e : VV.ro m (((t.map bV).drop q).take (m * 1)) = roB ((t.drop q).take m) := by
    unfold roB
    simp only [Nat.mul_one, List.map_take, List.map_drop, List.length_take, List.length_drop]
    rw [Nat.min_eq_left (by omega)]
  rwa [e] at this
theorem hasSufS_call {t : List UInt8} {q m b b2 : Nat} {c0 : Option Nat} {H : Heap} (hg : H.get b = some (.cells true (t.map bV))) (hg2 : H.get b2 = some (.cells true [bV 13])) (hl : q + m ≤ t.length) (ht : t.length ≤ 100000) : VCall Tryd.prog 165 [.sl b q m none 1, .sl b2 0 1 c0 1] H (fun x K => x = booV (((t.drop q).take m).getLast? == some 13) ∧ K = H) := by
  refine VCall.viewed (args' := [roB ((t.drop q).take m), .ro 1 [bV 13]]) (Q := fun v K => v = booV (((t.drop q).take m).getLast? == some 13)) (.cons (viewQ hg hl) (.cons ?_ .nil)) ((hasSufR_call _ _ (by simp; omega)).mono fun v K h => h.1) (fun v K e => by subst e; exact Frx.of (exact_sc _))
  exact View.sl (H := H) (b := b2) (o := 0) (n := 1) (z := 1) (c := c0) hg2 (by simp) (nameless_map nameless_bV [13])
theorem trimSufS_call {t : List UInt8} {q m b b2 : Nat} {c0 : Option Nat} {H : Heap} (hg : H.get b = some (.cells true (t.map bV))) (hg2 : H.get b2 = some (.cells true [bV 13])) (hl : q + m ≤ t.length) (ht : t.length ≤ 100000) : VCall Tryd.prog 134 [.sl b q m none 1, .sl b2 0 1 c0 1] H (fun x K => x = .sl b q (trimCR ((t.drop q).take m)).length none 1 ∧ K = H) := by
  have hs := hasSufS_call (c0 := c0) hg hg2 hl ht
  have hxl : ((t.drop q).take m).length = m := by simp; omega
  refine VCall.go Tryd.func134 rfl ?_
  generalize (t.drop q).take m = x at *
  cases h13 : x.getLast? == some 13 with
  | true =>
    rw [h13] at hs
    have hl1 : 1 ≤ x.length := by
      cases x with
      | nil => simp at h13
      | cons a r => simp
    have e : (trimCR x).length = m - 1 := by
      unfold trimCR
      rw [if_pos (beq_iff_eq.1 h13), List.length_dropLast, hxl]
    repeat' (first | with_reducible refine And.intro ?_ ?_ | ((with_reducible intro hc); (try simp only [zA, zB, zC, zD, zE, zF, zG, zH, zI, zJ, zK, zL, zM, zN, zO, zP, zQ, zR, zS, zT, zU, zV, zW] at hc); (first | (exact absurd rfl hc) | (exact absurd trivial hc) | (exfalso; omega) | skip)) | exact Is.mk rfl rfl | ((conv => whnf); first | with_reducible refine And.intro ?_ ?_ | with_reducible intro hx | exact Is.mk rfl rfl | (with_reducible first | apply Val.via | apply ValH.via) | refine ifB_intro ?_ ?_ | refine xA (by omega) ?_ | ((refine xB ?_); intro kw hk1 hk2) | refine xC (by omega) ?_ | refine xD ?_ | refine xE (by omega) ?_ | refine xF (by omega) ?_ | refine xG ?_ | refine xH ?_ | refine xI (by omega) ?_ | refine xJ (by omega) ?_ | (with_reducible refine stopA ?_) | refine Exists.intro _ (And.intro (by rfl) ?_) | refine GOp.drawn (by rfl) (by rfl) (Nat.le_of_ble_eq_true (by rfl)) (by rfl) | refine GOp.via (by rfl) ?_ | refine GWP.drawY mixed _ (by kernel_rfl) (by rfl) ?_ | (refine GCall.mk ((hs).mono ?_); rintro _ _ ⟨rfl, rfl⟩) | (with_reducible first | refine stopO ?_ | refine stopE ?_ | refine stopD ?_ | refine stopW ?_ | refine stopG ?_ | refine stopC ?_ | refine stopR ?_)))
    (all_goals (first | omega | skip))
    refine GOp'.slQ (l := 0) (h := m - 1) rfl Tryd.underlying22 (by kernel_rfl) rfl ((vb_h ⟨by omega, by omega⟩).trans (by rw [show ((m : Int) - ((1 : Nat) : Int)).toNat = m - 1 by omega])) (by omega) ?_
    rintro u (rfl | ⟨rfl, h0, h1⟩)
    · repeat' (first | with_reducible refine And.intro ?_ ?_ | ((with_reducible intro hc); (try simp only [zA, zB, zC, zD, zE, zF, zG, zH, zI, zJ, zK, zL, zM, zN, zO, zP, zQ, zR, zS, zT, zU, zV, zW] at hc); (first | (exact absurd rfl hc) | (exact absurd trivial hc) | (exfalso; omega) | skip)) | exact Is.mk rfl rfl | ((conv => whnf); first | with_reducible refine And.intro ?_ ?_ | with_reducible intro hx | exact Is.mk rfl rfl | (with_reducible first | apply Val.via | apply ValH.via) | refine ifB_intro ?_ ?_ | refine xA (by omega) ?_ | ((refine xB ?_); intro kw hk1 hk2) | refine xC (by omega) ?_ | refine xD ?_ | refine xE (by omega) ?_ | refine xF (by omega) ?_ | refine xG ?_ | refine xH ?_ | refine xI (by omega) ?_ | refine xJ (by omega) ?_ | (with_reducible refine stopA ?_) | refine Exists.intro _ (And.intro (by rfl) ?_) | refine GOp.drawn (by rfl) (by rfl) (Nat.le_of_ble_eq_true (by rfl)) (by rfl) | refine GOp.via (by rfl) ?_ | refine GWP.drawY mixed _ (by kernel_rfl) (by rfl) ?_ | fail | (with_reducible first | refine stopO ?_ | refine stopE ?_ | refine stopD ?_ | refine stopW ?_ | refine stopG ?_ | refine stopC ?_ | refine stopR ?_)))
      (all_goals (first | omega | skip))
      exact Done'.mk ⟨by rw [e]; rfl, rfl⟩
    · omega
  | false =>
    rw [h13] at hs
    have e : (trimCR x).length = m := by
      unfold trimCR
      rw [if_neg (beq_eq_false_iff_ne.1 h13), hxl]
    repeat' (first | with_reducible refine And.intro ?_ ?_ | ((with_reducible intro hc); (try simp only [zA, zB, zC, zD, zE, zF, zG, zH, zI, zJ, zK, zL, zM, zN, zO, zP, zQ, zR, zS, zT, zU, zV, zW] at hc); (first | (exact absurd rfl hc) | (exact absurd trivial hc) | (exfalso; omega) | skip)) | exact Is.mk rfl rfl | ((conv => whnf); first | with_reducible refine And.intro ?_ ?_ | with_reducible intro hx | exact Is.mk rfl rfl | (with_reducible first | apply Val.via | apply ValH.via) | refine ifB_intro ?_ ?_ | refine xA (by omega) ?_ | ((refine xB ?_); intro kw hk1 hk2) | refine xC (by omega) ?_ | refine xD ?_ | refine xE (by omega) ?_ | refine xF (by omega) ?_ | refine xG ?_ | refine xH ?_ | refine xI (by omega) ?_ | refine xJ (by omega) ?_ | (with_reducible refine stopA ?_) | refine Exists.intro _ (And.intro (by rfl) ?_) | refine GOp.drawn (by rfl) (by rfl) (Nat.le_of_ble_eq_true (by rfl)) (by rfl) | refine GOp.via (by rfl) ?_ | refine GWP.drawY mixed _ (by kernel_rfl) (by rfl) ?_ | (refine GCall.mk ((hs).mono ?_); rintro _ _ ⟨rfl, rfl⟩) | (with_reducible first | refine stopO ?_ | refine stopE ?_ | refine stopD ?_ | refine stopW ?_ | refine stopG ?_ | refine stopC ?_ | refine stopR ?_)))
    (all_goals (first | omega | skip))
    exact Done'.mk ⟨by rw [e]; rfl, rfl⟩
theorem spH_pre : ∀ (t cur : List UInt8), (spH t cur).1 <+: cur ++ t
  | [], cur => by rw [List.append_nil]; exact List.prefix_rfl
  | b :: t, cur => by
    unfold spH
    by_cases hb : b = 10
    · rw [if_pos hb]
      by_cases hc : trimCR cur = []
      · rw [if_pos hc]; exact List.nil_prefix
      · rw [if_neg hc]
        subst hb
        have := spH_pre t []
        rw [List.nil_append] at this
        exact (List.prefix_append_right_inj _).2 ((List.cons_prefix_cons).2 ⟨rfl, this⟩)
    · rw [if_neg hb]
      have := spH_pre t (cur ++ [b])
      rwa [List.append_assoc] at this
theorem spH_suf : ∀ (t cur : List UInt8), (spH t cur).2 <:+ t
  | [], cur => List.suffix_rfl
  | b :: t, cur => by
    unfold spH
    by_cases hb : b = 10
    · rw [if_pos hb]
      by_cases hc : trimCR cur = []
      · rw [if_pos hc]; exact List.suffix_cons b t
      · rw [if_neg hc]; exact (spH_suf t []).trans (List.suffix_cons b t)
    · rw [if_neg hb]; exact (spH_suf t _).trans (List.suffix_cons b t)
theorem spH_take (t : List UInt8) : t.take (spH t []).1.length = (spH t []).1 := by
  have := spH_pre t []
  rw [List.nil_append] at this
  exact (List.prefix_iff_eq_take.1 this).symm
theorem spH_drop (t : List UInt8) : t.drop (t.length - (spH t []).2.length) = (spH t []).2 := (List.suffix_iff_eq_drop.1 (spH_suf t [])).symm
/-- The body, as a part of the text. -/
def bodV (n : Nat) : List UInt8 → VV
  | [] => .ro 0 []
  | c :: r => .sl 0 (n - (r.length + 1)) (r.length + 1) none 1
def splV (t : List UInt8) : VV := .tp [.sl 0 0 (spH t []).1.length none 1, bodV t.length (spH t []).2]
theorem bodV_frz {n : Nat} {l : List UInt8} {K : Heap} : FrzB 5 K (bodV n l) (bodV n l) := by
  cases l with
  | nil => exact .of (nameless_roB [])
  | cons c r => exact .sl (by omega)
theorem bodV_view {t : List UInt8} {H : Heap} (hg : H.get 0 = some (.cells true (t.map bV))) : View H (bodV t.length (spH t []).2) (roB (spH t []).2) := by
  have h := spH_drop t
  have hs := (spH_suf t []).length_le
  cases hb : (spH t []).2 with
  | nil => exact View.of (nameless_roB [])
  | cons c r =>
    rw [hb] at h hs
    rw [List.length_cons] at h hs
    have := viewQ (q := t.length - (r.length + 1)) (m := r.length + 1) (c := none) hg (by omega)
    rwa [h, List.take_of_length_le (by simp)] at this
theorem blkV_view {t : List UInt8} {H : Heap} (hg : H.get 0 = some (.cells true (t.map bV))) : View H (.sl 0 0 (spH t []).1.length none 1) (roB (spH t []).1) := by
  have hs := (spH_pre t []).length_le
  rw [List.nil_append] at hs
  have := viewQ (q := 0) (m := (spH t []).1.length) (c := none) hg (by omega)
  rwa [List.drop_zero, spH_take] at this
theorem splV_nil {t : List UInt8} {a : Nat} (h1 : (spH t []).1 = t.take a) (ha : a ≤ t.length) (h2 : (spH t []).2 = []) : splV t = .tp [.sl 0 0 a none 1, .ro 0 []] := by
  unfold splV
  rw [h2, h1, List.length_take, Nat.min_eq_left ha]
  rfl
theorem splV_at {t : List UInt8} {a q : Nat} (h1 : (spH t []).1 = t.take a) (ha : a ≤ t.length) (h2 : (spH t []).2 = t.drop q) (hq : q < t.length) : splV t = .tp [.sl 0 0 a none 1, .sl 0 q (t.length - q) none 1] := by
  unfold splV
  have hl : (t.drop q).length = t.length - q := List.length_drop
  rw [h2, h1, List.length_take, Nat.min_eq_left ha]
  cases hb : t.drop q with
  | nil => rw [hb] at hl; simp at hl; omega
  | cons c r =>
    rw [hb, List.length_cons] at hl
    show VV.tp [.sl 0 0 a none 1, .sl 0 (t.length - (r.length + 1)) (r.length + 1) none 1] = _
    rw [hl, show t.length - (t.length - q) = q by omega]
theorem split0_call (t : List UInt8) (ht : t.length ≤ 100000) : VCall Tryd.prog 92 [.sl 0 0 t.length none 1] ⟨[(0, .cells true (t.map bV))], 5⟩ (fun v K => v = splV t ∧ K = ⟨[(0, .cells true (t.map bV))], 5⟩) := by
  refine VCall.trimB (Q' := fun v => v = splV t) (Q := fun v K => (v = splV t ∨ (v = .tp [.sl 0 0 t.length none 1, .sc (.slice none 0 0)] ∧ splV t = .tp [.sl 0 0 t.length none 1, .ro 0 []])) ∧ K.get 0 = some (.cells true (t.map bV))) ?_ ?_ ?_
  · intro b x hx
    rw [hget_cons] at hx
    split at hx
    · injection hx with hx
      exact ⟨_, .inl hx.symm, nameless_map nameless_bV t⟩
    · simp [hget] at hx
  rotate_left
  · rintro v K ⟨hv, hk⟩
    refine ⟨fun b z hz => ?_, _, rfl, ?_⟩
    · rw [hget_cons] at hz
      split at hz
      · rename_i e; subst e; rw [← hz]; exact hk
      · simp [hget] at hz
    · rcases hv with rfl | ⟨rfl, e⟩
      · exact .tp2 (.sl (by omega)) bodV_frz
      · rw [e]
        exact .tp2 (.sl (by omega)) Frz.nil0.toB
  refine VCall.go Tryd.func92 rfl ?_
  repeat' (first | with_reducible refine And.intro ?_ ?_ | ((with_reducible intro hc); (try simp only [zA, zB, zC, zD, zE, zF, zG, zH, zI, zJ, zK, zL, zM, zN, zO, zP, zQ, zR, zS, zT, zU, zV, zW] at hc); (first | (exact absurd rfl hc) | (exact absurd trivial hc) | (exfalso; omega) | skip)) | ((conv => whnf); first | with_reducible refine And.intro ?_ ?_ | refine ifB_intro ?_ ?_ | refine xA (by omega) ?_ | ((refine xB ?_); intro kw hk1 hk2) | refine xC (by omega) ?_ | refine xD ?_ | refine xE (by omega) ?_ | refine xF (by omega) ?_ | refine xG ?_ | refine xH ?_ | refine xI (by omega) ?_ | refine xJ (by omega) ?_ | (with_reducible refine stopA ?_) | refine Exists.intro _ (And.intro (by rfl) ?_) | refine GOp.via (by rfl) ?_ | (with_reducible first | refine stopO ?_ | refine stopE ?_ | refine stopD ?_ | refine stopW ?_ | refine stopG ?_ | refine stopC ?_ | refine stopR ?_)))
  (refine GWP'.mk (GWP.loopB [] (fun (a : Nat) => a ≤ t.length ∧ (spH t []).1 = t.take a ++ (spH (t.drop a) []).1 ∧ (spH t []).2 = (spH (t.drop a) []).2) (fun a => [(4, iV a)]) (fun a => []) 5 (fun a => t.length - a) 0 ⟨Nat.zero_le _, rfl, rfl⟩ ?_); (conv => whnf); refine And.intro ?_ ?_)
  · focus (refine KeptA.of [] rfl rfl (by repeat' (first | exact trivial | refine And.intro rfl ?_)) rfl ?_ ?_; all_goals (repeat' (first | exact trivial | (refine And.intro ?_ ?_) | (refine Exists.intro _ (And.intro rfl ?_)) | (refine RenO.opt ?_) | (refine RenO.toOpt ?_) | (refine RenO.cells ?_) | exact RenO.defs | exact RenL.nil | (refine RenL.cons ?_ ?_) | (first | fail | (with_reducible exact RenV.sc) | exact RenV.gsN | exact RenV.gsZ | exact RenV.gsL (by decide) | exact RenV.slL (by decide) | ((first | refine RenV.gsE (by (first | exact List.Mem.head _ | exact List.Mem.tail _ (List.Mem.head _) | exact List.Mem.tail _ (List.Mem.tail _ (List.Mem.head _)) | (simp; done))) ?_ | refine RenV.eq (scI_eq ?_) (nameless_sc _)); (first | rfl | omega | (simp only [List.length_append, List.length_cons, List.length_nil, List.length_map, List.length_take, List.length_drop] <;> omega) | (simp only <;> omega) | (simp <;> omega))) | exact RenV.undef) | (with_unfolding_all exact (rfl : (_ : VObj) = _)))))
  rintro a ⟨h1, h2, h3⟩
  simp only at h1 h2 h3 ⊢
  by_cases hal : a < t.length
  · have hib := fun (c : UInt8) (H : Heap) (hg : H.get 0 = some (.cells true (t.map bV))) => VCall.viewed (P := Tryd.prog) (f := 133) (args := [.sl 0 (0 + a) (t.length - a) none 1, bV c]) (args' := [roB ((t.drop (0 + a)).take (t.length - a)), bV c]) (Q := fun v K => v = iV (idxB ((t.drop (0 + a)).take (t.length - a)) c)) (.cons (viewQ hg (by omega)) (.cons (View.of (nameless_bV c)) .nil)) ((indexByte_call _ c _).mono fun v K h => h.1) (fun v K e => by subst e; exact Frx.of (exact_sc _))
    rw [show (t.drop (0 + a)).take (t.length - a) = t.drop a by rw [Nat.zero_add, List.take_of_length_le (by simp)]] at hib
    by_cases hc10 : (t.drop a).contains 10 = true
    · obtain ⟨e1, e2, e3⟩ := line_at hc10
      have hix : idxB (t.drop a) 10 = ((t.drop a).idxOf 10 : Nat) := by unfold idxB; rw [if_pos hc10]
      have hib := hib 10
      rw [hix] at hib
      rw [List.length_drop] at e3
      have hsp : spH (t.drop a) [] = if trimCR ((t.drop a).take ((t.drop a).idxOf 10)) = [] then ([], (t.drop a).drop ((t.drop a).idxOf 10 + 1)) else ((t.drop a).take ((t.drop a).idxOf 10) ++ 10 :: (spH ((t.drop a).drop ((t.drop a).idxOf 10 + 1)) []).1, (spH ((t.drop a).drop ((t.drop a).idxOf 10 + 1)) []).2) := by
        conv => lhs; rw [e1]
        rw [spH_line _ _ _ e2, List.nil_append]
      generalize (t.drop a).idxOf 10 = k at *
      have htk : (t.drop a).take (k + 1) = (t.drop a).take k ++ [10] := by
        conv => lhs; rw [e1]
        have hl : ((t.drop a).take k).length = k := by simp; omega
        rw [List.take_append, List.take_of_length_le (by omega), hl, show k + 1 - k = 1 by omega]
        rfl
      have hta : t.take (a + k + 1) = t.take a ++ ((t.drop a).take k ++ [10]) := by
        rw [← htk, ← List.take_add, Nat.add_assoc]
      have hda : (t.drop a).drop (k + 1) = t.drop (a + k + 1) := by rw [List.drop_drop, Nat.add_assoc]
      rw [hda] at hsp
      have hts := fun (H : Heap) (hg : H.get 0 = some (.cells true (t.map bV))) (hg2 : H.get 5 = some (.cells true [bV 13])) => trimSufS_call (t := t) (q := 0 + a) (m := a + k - a) (c0 := some 1) hg hg2 (by omega) ht
      rw [show (t.drop (0 + a)).take (a + k - a) = (t.drop a).take k by rw [Nat.zero_add, show a + k - a = k by omega]] at hts
      repeat' (first | with_reducible refine And.intro ?_ ?_ | ((with_reducible intro hc); (try simp only [zA, zB, zC, zD, zE, zF, zG, zH, zI, zJ, zK, zL, zM, zN, zO, zP, zQ, zR, zS, zT, zU, zV, zW] at hc); (first | (exact absurd rfl hc) | (exact absurd trivial hc) | (exfalso; omega) | skip)) | exact Is.mk rfl rfl | ((conv => whnf); first | with_reducible refine And.intro ?_ ?_ | with_reducible intro hx | exact Is.mk rfl rfl | (with_reducible first | apply Val.via | apply ValH.via) | refine ifB_intro ?_ ?_ | refine xA (by omega) ?_ | ((refine xB ?_); intro kw hk1 hk2) | refine xC (by omega) ?_ | refine xD ?_ | refine xE (by omega) ?_ | refine xF (by omega) ?_ | refine xG ?_ | refine xH ?_ | refine xI (by omega) ?_ | refine xJ (by omega) ?_ | (with_reducible refine stopA ?_) | refine Exists.intro _ (And.intro (by rfl) ?_) | refine GOp.drawn (by rfl) (by rfl) (Nat.le_of_ble_eq_true (by rfl)) (by rfl) | refine GOp.via (by rfl) ?_ | refine GWP.drawY mixed _ (by kernel_rfl) (by rfl) ?_ | fail | (with_reducible first | refine stopO ?_ | refine stopE ?_ | refine stopD ?_ | refine stopW ?_ | refine stopG ?_ | refine stopC ?_ | refine stopR ?_)))
      (all_goals (first | omega | skip))
      refine GOp'.slQ (l := a) (h := t.length) rfl Tryd.underlying22 (by kernel_rfl) rfl ((vb_l ⟨by omega, by omega⟩).trans (by rw [Int.toNat_natCast])) (by omega) ?_
      rintro u (rfl | ⟨rfl, h0, h0'⟩)
      rotate_left
      · omega
      repeat' (first | with_reducible refine And.intro ?_ ?_ | ((with_reducible intro hc); (try simp only [zA, zB, zC, zD, zE, zF, zG, zH, zI, zJ, zK, zL, zM, zN, zO, zP, zQ, zR, zS, zT, zU, zV, zW] at hc); (first | (exact absurd rfl hc) | (exact absurd trivial hc) | (exfalso; omega) | skip)) | exact Is.mk rfl rfl | ((conv => whnf); first | with_reducible refine And.intro ?_ ?_ | with_reducible intro hx | exact Is.mk rfl rfl | (with_reducible first | apply Val.via | apply ValH.via) | refine ifB_intro ?_ ?_ | refine xA (by omega) ?_ | ((refine xB ?_); intro kw hk1 hk2) | refine xC (by omega) ?_ | refine xD ?_ | refine xE (by omega) ?_ | refine xF (by omega) ?_ | refine xG ?_ | refine xH ?_ | refine xI (by omega) ?_ | refine xJ (by omega) ?_ | (with_reducible refine stopA ?_) | refine Exists.intro _ (And.intro (by rfl) ?_) | refine GOp.drawn (by rfl) (by rfl) (Nat.le_of_ble_eq_true (by rfl)) (by rfl) | refine GOp.via (by rfl) ?_ | refine GWP.drawY mixed _ (by kernel_rfl) (by rfl) ?_ | (refine GCall.mk ((hib _ rfl).mono ?_); rintro _ _ ⟨rfl, rfl⟩) | (with_reducible first | refine stopO ?_ | refine stopE ?_ | refine stopD ?_ | refine stopW ?_ | refine stopG ?_ | refine stopC ?_ | refine stopR ?_)))
      (all_goals (first | omega | skip))
      refine GOp'.slQ (l := a) (h := a + k) rfl Tryd.underlying22 (by kernel_rfl) rfl ((vb_lh ⟨by omega, by omega, by omega⟩).trans (by rw [Int.toNat_natCast, show ((a : Int) + (k : Int)).toNat = a + k by omega])) (by omega) ?_
      rintro u (rfl | ⟨rfl, h0, h0'⟩)
      · by_cases he : trimCR ((t.drop a).take k) = []
        · rw [if_pos he] at hsp
          rw [he] at hts
          (by_cases hend : a + k + 1 = t.length; (· (repeat' (first | with_reducible refine And.intro ?_ ?_ | ((with_reducible intro hc); (try simp only [zA, zB, zC, zD, zE, zF, zG, zH, zI, zJ, zK, zL, zM, zN, zO, zP, zQ, zR, zS, zT, zU, zV, zW] at hc); (first | (exact absurd rfl hc) | (exact absurd trivial hc) | (exfalso; omega) | skip)) | exact Is.mk rfl rfl | ((conv => whnf); first | with_reducible refine And.intro ?_ ?_ | with_reducible intro hx | exact Is.mk rfl rfl | (with_reducible first | apply Val.via | apply ValH.via) | refine ifB_intro ?_ ?_ | refine xA (by omega) ?_ | ((refine xB ?_); intro kw hk1 hk2) | refine xC (by omega) ?_ | refine xD ?_ | refine xE (by omega) ?_ | refine xF (by omega) ?_ | refine xG ?_ | refine xH ?_ | refine xI (by omega) ?_ | refine xJ (by omega) ?_ | (with_reducible refine stopA ?_) | refine Exists.intro _ (And.intro (by rfl) ?_) | refine GOp.drawn (by rfl) (by rfl) (Nat.le_of_ble_eq_true (by rfl)) (by rfl) | refine GOp.via (by rfl) ?_ | refine GWP.drawY mixed _ (by kernel_rfl) (by rfl) ?_ | (first | (refine GCall.mk ((hts _ rfl rfl).mono ?_); rintro _ _ ⟨rfl, rfl⟩) | (refine stopO (GOp'.slP (h := a) rfl Tryd.underlying22 (by kernel_rfl) rfl ((vb_h ⟨by omega, by omega⟩).trans (by rw [Int.toNat_natCast])) ?_)) | (refine stopO (GOp'.slE (z := 1) (l := a + k + 1) rfl Tryd.underlying22 (by kernel_rfl) rfl ((vb_l ⟨by omega, by omega⟩).trans (by first | (rw [show ((a : Int) + (k : Int) + 1).toNat = a + k + 1 by omega]; done) | rw [show ((a : Int) + (k : Int) + 1).toNat = a + k + 1 by omega, hend])) (by omega) ?_))) | (with_reducible first | refine stopO ?_ | refine stopE ?_ | refine stopD ?_ | refine stopW ?_ | refine stopG ?_ | refine stopC ?_ | refine stopR ?_)))); (all_goals (first | omega | skip)); exact Done'.mk ⟨.inl (splV_nil (a := a) (by rw [h2, hsp, List.append_nil]) (by omega) (by rw [h3, hsp, hend, List.drop_length])).symm, rfl⟩); (· (repeat' (first | with_reducible refine And.intro ?_ ?_ | ((with_reducible intro hc); (try simp only [zA, zB, zC, zD, zE, zF, zG, zH, zI, zJ, zK, zL, zM, zN, zO, zP, zQ, zR, zS, zT, zU, zV, zW] at hc); (first | (exact absurd rfl hc) | (exact absurd trivial hc) | (exfalso; omega) | skip)) | exact Is.mk rfl rfl | ((conv => whnf); first | with_reducible refine And.intro ?_ ?_ | with_reducible intro hx | exact Is.mk rfl rfl | (with_reducible first | apply Val.via | apply ValH.via) | refine ifB_intro ?_ ?_ | refine xA (by omega) ?_ | ((refine xB ?_); intro kw hk1 hk2) | refine xC (by omega) ?_ | refine xD ?_ | refine xE (by omega) ?_ | refine xF (by omega) ?_ | refine xG ?_ | refine xH ?_ | refine xI (by omega) ?_ | refine xJ (by omega) ?_ | (with_reducible refine stopA ?_) | refine Exists.intro _ (And.intro (by rfl) ?_) | refine GOp.drawn (by rfl) (by rfl) (Nat.le_of_ble_eq_true (by rfl)) (by rfl) | refine GOp.via (by rfl) ?_ | refine GWP.drawY mixed _ (by kernel_rfl) (by rfl) ?_ | (first | (refine GCall.mk ((hts _ rfl rfl).mono ?_); rintro _ _ ⟨rfl, rfl⟩) | (refine stopO (GOp'.slP (h := a) rfl Tryd.underlying22 (by kernel_rfl) rfl ((vb_h ⟨by omega, by omega⟩).trans (by rw [Int.toNat_natCast])) ?_)) | (refine stopO (GOp'.slN (z := 1) (l := a + k + 1) rfl Tryd.underlying22 (by kernel_rfl) rfl ((vb_l ⟨by omega, by omega⟩).trans (by first | (rw [show ((a : Int) + (k : Int) + 1).toNat = a + k + 1 by omega]; done) | rw [show ((a : Int) + (k : Int) + 1).toNat = a + k + 1 by omega, hend])) (by omega) ?_))) | (with_reducible first | refine stopO ?_ | refine stopE ?_ | refine stopD ?_ | refine stopW ?_ | refine stopG ?_ | refine stopC ?_ | refine stopR ?_)))); (all_goals (first | omega | skip)); exact Done'.mk ⟨.inl (show VV.tp [.sl 0 0 a none 1, .sl 0 (0 + (a + k + 1) * 1) (t.length - (a + k + 1)) none 1] = _ by rw [show 0 + (a + k + 1) * 1 = a + k + 1 by omega]; exact (splV_at (a := a) (q := a + k + 1) (by rw [h2, hsp, List.append_nil]) (by omega) (by rw [h3, hsp]) (by omega)).symm), rfl⟩))
        · rw [if_neg he] at hsp
          have hne : ¬ (trimCR ((t.drop a).take k)).length = 0 := fun h => he (List.eq_nil_of_length_eq_zero h)
          generalize trimCR ((t.drop a).take k) = x at *
          repeat' (first | with_reducible refine And.intro ?_ ?_ | ((with_reducible intro hc); (try simp only [zA, zB, zC, zD, zE, zF, zG, zH, zI, zJ, zK, zL, zM, zN, zO, zP, zQ, zR, zS, zT, zU, zV, zW] at hc); (first | (exact absurd rfl hc) | (exact absurd trivial hc) | (exfalso; omega) | skip)) | exact Is.mk rfl rfl | ((conv => whnf); first | with_reducible refine And.intro ?_ ?_ | with_reducible intro hx | exact Is.mk rfl rfl | (with_reducible first | apply Val.via | apply ValH.via) | refine ifB_intro ?_ ?_ | refine xA (by omega) ?_ | ((refine xB ?_); intro kw hk1 hk2) | refine xC (by omega) ?_ | refine xD ?_ | refine xE (by omega) ?_ | refine xF (by omega) ?_ | refine xG ?_ | refine xH ?_ | refine xI (by omega) ?_ | refine xJ (by omega) ?_ | (with_reducible refine stopA ?_) | refine Exists.intro _ (And.intro (by rfl) ?_) | refine GOp.drawn (by rfl) (by rfl) (Nat.le_of_ble_eq_true (by rfl)) (by rfl) | refine GOp.via (by rfl) ?_ | refine GWP.drawY mixed _ (by kernel_rfl) (by rfl) ?_ | (refine GCall.mk ((hts _ rfl rfl).mono ?_); rintro _ _ ⟨rfl, rfl⟩) | (with_reducible first | refine stopO ?_ | refine stopE ?_ | refine stopD ?_ | refine stopW ?_ | refine stopG ?_ | refine stopC ?_ | refine stopR ?_)))
          (all_goals (first | omega | skip))
          focus (refine Done'.mk ⟨(a + k + 1), ⟨by omega, by rw [h2, hsp, hta]; simp, by rw [h3, hsp]⟩, ?_, KeptA.of [] rfl rfl (by repeat' (first | exact trivial | refine And.intro rfl ?_)) rfl ?_ ?_⟩; (first | omega | (simp only; omega)); all_goals (repeat' (first | exact trivial | (refine And.intro ?_ ?_) | (refine Exists.intro _ (And.intro rfl ?_)) | (refine RenO.opt ?_) | (refine RenO.toOpt ?_) | (refine RenO.cells ?_) | exact RenO.defs | exact RenL.nil | (refine RenL.cons ?_ ?_) | (first | exact RenV.eq (scI_eq (by omega)) (nameless_sc _) | (with_reducible exact RenV.sc) | exact RenV.gsN | exact RenV.gsZ | exact RenV.gsL (by decide) | exact RenV.slL (by decide) | ((first | refine RenV.gsE (by (first | exact List.Mem.head _ | exact List.Mem.tail _ (List.Mem.head _) | exact List.Mem.tail _ (List.Mem.tail _ (List.Mem.head _)) | (simp; done))) ?_ | refine RenV.eq (scI_eq ?_) (nameless_sc _)); (first | rfl | omega | (simp only [List.length_append, List.length_cons, List.length_nil, List.length_map, List.length_take, List.length_drop] <;> omega) | (simp only <;> omega) | (simp <;> omega))) | exact RenV.undef) | (with_unfolding_all exact (rfl : (_ : VObj) = _)))))
      · have hk0 : k = 0 := by omega
        have hx0 : (t.drop a).take k = [] := by rw [hk0, List.take_zero]
        rw [hx0, if_pos (show trimCR [] = [] from rfl)] at hsp
        (by_cases hend : a + k + 1 = t.length; (· (repeat' (first | with_reducible refine And.intro ?_ ?_ | ((with_reducible intro hc); (try simp only [zA, zB, zC, zD, zE, zF, zG, zH, zI, zJ, zK, zL, zM, zN, zO, zP, zQ, zR, zS, zT, zU, zV, zW] at hc); (first | (exact absurd rfl hc) | (exact absurd trivial hc) | (exfalso; omega) | skip)) | exact Is.mk rfl rfl | ((conv => whnf); first | with_reducible refine And.intro ?_ ?_ | with_reducible intro hx | exact Is.mk rfl rfl | (with_reducible first | apply Val.via | apply ValH.via) | refine ifB_intro ?_ ?_ | refine xA (by omega) ?_ | ((refine xB ?_); intro kw hk1 hk2) | refine xC (by omega) ?_ | refine xD ?_ | refine xE (by omega) ?_ | refine xF (by omega) ?_ | refine xG ?_ | refine xH ?_ | refine xI (by omega) ?_ | refine xJ (by omega) ?_ | (with_reducible refine stopA ?_) | refine Exists.intro _ (And.intro (by rfl) ?_) | refine GOp.drawn (by rfl) (by rfl) (Nat.le_of_ble_eq_true (by rfl)) (by rfl) | refine GOp.via (by rfl) ?_ | refine GWP.drawY mixed _ (by kernel_rfl) (by rfl) ?_ | (first | (refine GCall.mk ((trimSuf_call [] _ rfl (by simp)).mono ?_); rintro _ _ ⟨rfl, rfl⟩) | (refine stopO (GOp'.slP (h := a) rfl Tryd.underlying22 (by kernel_rfl) rfl ((vb_h ⟨by omega, by omega⟩).trans (by rw [Int.toNat_natCast])) ?_)) | (refine stopO (GOp'.slE (z := 1) (l := a + k + 1) rfl Tryd.underlying22 (by kernel_rfl) rfl ((vb_l ⟨by omega, by omega⟩).trans (by first | (rw [show ((a : Int) + (k : Int) + 1).toNat = a + k + 1 by omega]; done) | rw [show ((a : Int) + (k : Int) + 1).toNat = a + k + 1 by omega, hend])) (by omega) ?_))) | (with_reducible first | refine stopO ?_ | refine stopE ?_ | refine stopD ?_ | refine stopW ?_ | refine stopG ?_ | refine stopC ?_ | refine stopR ?_)))); (all_goals (first | omega | skip)); exact Done'.mk ⟨.inl (splV_nil (a := a) (by rw [h2, hsp, List.append_nil]) (by omega) (by rw [h3, hsp, hend, List.drop_length])).symm, rfl⟩); (· (repeat' (first | with_reducible refine And.intro ?_ ?_ | ((with_reducible intro hc); (try simp only [zA, zB, zC, zD, zE, zF, zG, zH, zI, zJ, zK, zL, zM, zN, zO, zP, zQ, zR, zS, zT, zU, zV, zW] at hc); (first | (exact absurd rfl hc) | (exact absurd trivial hc) | (exfalso; omega) | skip)) | exact Is.mk rfl rfl | ((conv => whnf); first | with_reducible refine And.intro ?_ ?_ | with_reducible intro hx | exact Is.mk rfl rfl | (with_reducible first | apply Val.via | apply ValH.via) | refine ifB_intro ?_ ?_ | refine xA (by omega) ?_ | ((refine xB ?_); intro kw hk1 hk2) | refine xC (by omega) ?_ | refine xD ?_ | refine xE (by omega) ?_ | refine xF (by omega) ?_ | refine xG ?_ | refine xH ?_ | refine xI (by omega) ?_ | refine xJ (by omega) ?_ | (with_reducible refine stopA ?_) | refine Exists.intro _ (And.intro (by rfl) ?_) | refine GOp.drawn (by rfl) (by rfl) (Nat.le_of_ble_eq_true (by rfl)) (by rfl) | refine GOp.via (by rfl) ?_ | refine GWP.drawY mixed _ (by kernel_rfl) (by rfl) ?_ | (first | (refine GCall.mk ((trimSuf_call [] _ rfl (by simp)).mono ?_); rintro _ _ ⟨rfl, rfl⟩) | (refine stopO (GOp'.slP (h := a) rfl Tryd.underlying22 (by kernel_rfl) rfl ((vb_h ⟨by omega, by omega⟩).trans (by rw [Int.toNat_natCast])) ?_)) | (refine stopO (GOp'.slN (z := 1) (l := a + k + 1) rfl Tryd.underlying22 (by kernel_rfl) rfl ((vb_l ⟨by omega, by omega⟩).trans (by first | (rw [show ((a : Int) + (k : Int) + 1).toNat = a + k + 1 by omega]; done) | rw [show ((a : Int) + (k : Int) + 1).toNat = a + k + 1 by omega, hend])) (by omega) ?_))) | (with_reducible first | refine stopO ?_ | refine stopE ?_ | refine stopD ?_ | refine stopW ?_ | refine stopG ?_ | refine stopC ?_ | refine stopR ?_)))); (all_goals (first | omega | skip)); exact Done'.mk ⟨.inl (show VV.tp [.sl 0 0 a none 1, .sl 0 (0 + (a + k + 1) * 1) (t.length - (a + k + 1)) none 1] = _ by rw [show 0 + (a + k + 1) * 1 = a + k + 1 by omega]; exact (splV_at (a := a) (q := a + k + 1) (by rw [h2, hsp, List.append_nil]) (by omega) (by rw [h3, hsp]) (by omega)).symm), rfl⟩))
    · have hix : idxB (t.drop a) 10 = -1 := by unfold idxB; rw [if_neg hc10]
      have hsp : spH (t.drop a) [] = (t.drop a, []) := spH_last _ _ (by simpa using hc10)
      have hib := hib 10
      rw [hix] at hib
      repeat' (first | with_reducible refine And.intro ?_ ?_ | ((with_reducible intro hc); (try simp only [zA, zB, zC, zD, zE, zF, zG, zH, zI, zJ, zK, zL, zM, zN, zO, zP, zQ, zR, zS, zT, zU, zV, zW] at hc); (first | (exact absurd rfl hc) | (exact absurd trivial hc) | (exfalso; omega) | skip)) | exact Is.mk rfl rfl | ((conv => whnf); first | with_reducible refine And.intro ?_ ?_ | with_reducible intro hx | exact Is.mk rfl rfl | (with_reducible first | apply Val.via | apply ValH.via) | refine ifB_intro ?_ ?_ | refine xA (by omega) ?_ | ((refine xB ?_); intro kw hk1 hk2) | refine xC (by omega) ?_ | refine xD ?_ | refine xE (by omega) ?_ | refine xF (by omega) ?_ | refine xG ?_ | refine xH ?_ | refine xI (by omega) ?_ | refine xJ (by omega) ?_ | (with_reducible refine stopA ?_) | refine Exists.intro _ (And.intro (by rfl) ?_) | refine GOp.drawn (by rfl) (by rfl) (Nat.le_of_ble_eq_true (by rfl)) (by rfl) | refine GOp.via (by rfl) ?_ | refine GWP.drawY mixed _ (by kernel_rfl) (by rfl) ?_ | fail | (with_reducible first | refine stopO ?_ | refine stopE ?_ | refine stopD ?_ | refine stopW ?_ | refine stopG ?_ | refine stopC ?_ | refine stopR ?_)))
      (all_goals (first | omega | skip))
      refine GOp'.slQ (l := a) (h := t.length) rfl Tryd.underlying22 (by kernel_rfl) rfl ((vb_l ⟨by omega, by omega⟩).trans (by rw [Int.toNat_natCast])) (by omega) ?_
      rintro u (rfl | ⟨rfl, h0, h0'⟩)
      rotate_left
      · omega
      repeat' (first | with_reducible refine And.intro ?_ ?_ | ((with_reducible intro hc); (try simp only [zA, zB, zC, zD, zE, zF, zG, zH, zI, zJ, zK, zL, zM, zN, zO, zP, zQ, zR, zS, zT, zU, zV, zW] at hc); (first | (exact absurd rfl hc) | (exact absurd trivial hc) | (exfalso; omega) | skip)) | exact Is.mk rfl rfl | ((conv => whnf); first | with_reducible refine And.intro ?_ ?_ | with_reducible intro hx | exact Is.mk rfl rfl | (with_reducible first | apply Val.via | apply ValH.via) | refine ifB_intro ?_ ?_ | refine xA (by omega) ?_ | ((refine xB ?_); intro kw hk1 hk2) | refine xC (by omega) ?_ | refine xD ?_ | refine xE (by omega) ?_ | refine xF (by omega) ?_ | refine xG ?_ | refine xH ?_ | refine xI (by omega) ?_ | refine xJ (by omega) ?_ | (with_reducible refine stopA ?_) | refine Exists.intro _ (And.intro (by rfl) ?_) | refine GOp.drawn (by rfl) (by rfl) (Nat.le_of_ble_eq_true (by rfl)) (by rfl) | refine GOp.via (by rfl) ?_ | refine GWP.drawY mixed _ (by kernel_rfl) (by rfl) ?_ | (refine GCall.mk ((hib _ rfl).mono ?_); rintro _ _ ⟨rfl, rfl⟩) | (with_reducible first | refine stopO ?_ | refine stopE ?_ | refine stopD ?_ | refine stopW ?_ | refine stopG ?_ | refine stopC ?_ | refine stopR ?_)))
      (all_goals (first | omega | skip))
      rw [hsp, List.take_append_drop] at h2
      rw [hsp] at h3
      exact Done'.mk ⟨.inr ⟨rfl, splV_nil (by rw [h2, List.take_length]) (Nat.le_refl _) h3⟩, rfl⟩
  · obtain rfl : a = t.length := by omega
    have hsp : spH (t.drop t.length) [] = ([], []) := by rw [List.drop_length]; rfl
    repeat' (first | with_reducible refine And.intro ?_ ?_ | ((with_reducible intro hc); (try simp only [zA, zB, zC, zD, zE, zF, zG, zH, zI, zJ, zK, zL, zM, zN, zO, zP, zQ, zR, zS, zT, zU, zV, zW] at hc); (first | (exact absurd rfl hc) | (exact absurd trivial hc) | (exfalso; omega) | skip)) | exact Is.mk rfl rfl | ((conv => whnf); first | with_reducible refine And.intro ?_ ?_ | with_reducible intro hx | exact Is.mk rfl rfl | (with_reducible first | apply Val.via | apply ValH.via) | refine ifB_intro ?_ ?_ | refine xA (by omega) ?_ | ((refine xB ?_); intro kw hk1 hk2) | refine xC (by omega) ?_ | refine xD ?_ | refine xE (by omega) ?_ | refine xF (by omega) ?_ | refine xG ?_ | refine xH ?_ | refine xI (by omega) ?_ | refine xJ (by omega) ?_ | (with_reducible refine stopA ?_) | refine Exists.intro _ (And.intro (by rfl) ?_) | refine GOp.drawn (by rfl) (by rfl) (Nat.le_of_ble_eq_true (by rfl)) (by rfl) | refine GOp.via (by rfl) ?_ | refine GWP.drawY mixed _ (by kernel_rfl) (by rfl) ?_ | fail | (with_reducible first | refine stopO ?_ | refine stopE ?_ | refine stopD ?_ | refine stopW ?_ | refine stopG ?_ | refine stopC ?_ | refine stopR ?_)))
    (all_goals (first | omega | skip))
    rw [hsp, List.take_length, List.append_nil] at h2
    rw [hsp] at h3
    exact Done'.mk ⟨.inr ⟨rfl, splV_nil (by rw [h2, List.take_length]) (Nat.le_refl _) h3⟩, rfl⟩
end Go.Proofs.YtmmjgbdihgdekaaDoor

/- Clone and Lines of what a caller's block holds; split of a named text among other blocks. -/
namespace Go.Proofs.YtmmjgbdihgdekaaDoor
open Go Go.RowKit
set_option linter.unusedSimpArgs false
set_option linter.unusedVariables false
set_option maxRecDepth 100000
set_option maxHeartbeats 4000000
theorem frx_ro0 {K : Heap} : Frx K (.ro 0 []) (.ro 0 []) := fun B w Z ρ ρ2 y _ hv => by
  cases hv with
  | ro => exact .ro0
  | ro0 => exact .ro0
theorem FrxL.pre {K : Heap} {B w : World} {Z : Nat → Prop} {ρ ρ2 : Nat → Option (Nat × Nat)} (hr : Rel B (fun _ => False) Z ρ K w) {vs us : List VV} (h : FrxL K vs us) : ∀ {cs : List Value}, Pw (VRel w Z ρ) vs cs → Pw (VRel w (fun k => B.heap.size ≤ k ∧ k < w.heap.size) ρ2) us cs := by
  induction h with
  | nil => intro cs hp; exact ⟨hp.1, fun i u c hu => by simp at hu⟩
  | @cons v u r s hvu _ ih =>
    intro cs hp
    match cs, hp with
    | c :: ct, hp =>
      have h0 := hp.2 0 v c rfl rfl
      have ht : Pw (VRel w Z ρ) r ct := ⟨by have := hp.1; simpa using this, fun i u c hu hc => hp.2 (i + 1) u c (by simpa using hu) (by simpa using hc)⟩
      exact Pw.cons (hvu B w Z ρ ρ2 c hr h0) (ih ht)
    | [], hp => have := hp.1; simp at this
theorem Frx.ptr {K : Heap} {b o : Nat} {vs us : List VV} (hg : K.get b = some (.cells true vs)) (h : FrxL K vs us) : Frx K (.ptr b o) (.rp us o) := fun B w Z ρ ρ2 y hr hv => by
  cases hv with
  | ptr hk =>
    obtain ⟨ds, g1, g2, g3⟩ := hr.read hg hk 0 vs.length (by omega)
    rw [List.drop_zero, List.take_of_length_le (Nat.le_refl _)] at g1
    obtain ⟨k', N', x, q1, q2, q3, q4, q5⟩ := hr.objC hg rfl
    rw [hk] at q1
    injection q1 with q1
    injection q1 with q1 q1'
    subst q1 q1'
    have hnew := (q5 rfl).resolve_right id
    have hlt := hr.lt hg hk
    have hp := h.pre (ρ2 := ρ2) hr g1
    have key := VRel.rp (w := w) (Z := fun k => B.heap.size ≤ k ∧ k < w.heap.size) (ρ := ρ2) (o := 0) (o' := o) (vs := us) (cs := ds) ⟨hnew, hlt⟩ hp.1 (fun i hi => by
      have := g3 i (ds[i]'hi) (List.getElem?_eq_getElem hi)
      rw [add_mk] at this
      rw [this, List.getElem?_eq_getElem hi]) hp.2
    rw [Nat.zero_add] at key
    exact key
theorem Frx.fn {K : Heap} {f : Fn} {vs us vs' us' : List VV} (h : FrxL K vs vs') (g : FrxL K us us') : Frx K (.fn f vs us) (.fn f vs' us') := fun B w Z ρ ρ2 y hr hv => by
  cases hv with
  | @fn _ _ _ cs ds h1 r1 h2 r2 =>
    have a := h.pre (ρ2 := ρ2) hr ⟨h1, r1⟩
    have b := g.pre (ρ2 := ρ2) hr ⟨h2, r2⟩
    exact .fn a.1 a.2 b.1 b.2
theorem exact_bV (b : UInt8) : Exact (bV b) := exact_sc _
theorem frx_own {K : Heap} {b : Nat} {l : List UInt8} (hg : K.get b = some (.cells true (l.map bV))) : Frx K (.sl b 0 l.length none 1) (roB l) := by
  have := Frx.sl (K := K) (b := b) (o := 0) (n := l.length) (z := 1) (c := none) hg (by simp) (fun v hv => by
    obtain ⟨c, _, rfl⟩ := List.mem_map.1 hv
    exact exact_bV c)
  rw [List.drop_zero, Nat.mul_one, List.take_of_length_le (by simp)] at this
  exact this
theorem cloneX_call (l : List UInt8) (hl : l.length ≤ 140737488355328) : VCall Tryd.prog 70 [roB l] ⟨[], 0⟩ (fun v K => Frx K v (roB l)) := by
  by_cases h0 : l.length = 0
  · obtain rfl : l = [] := List.eq_nil_of_length_eq_zero h0
    refine (clone_own0 [] 0).mono ?_
    rintro _ _ ⟨rfl, rfl⟩
    exact frx_ro0
  · refine (clone_own h0 hl [] 0).mono ?_
    rintro _ _ ⟨rfl, rfl⟩
    exact frx_own rfl
theorem cloneW_call {v : VV} {l : List UInt8} {H : Heap} (hv : View H v (roB l)) (hl : l.length ≤ 140737488355328) : VCall Tryd.prog 70 [v] H (fun x K => x = roB l ∧ K = H) :=
  VCall.viewed (args' := [roB l]) (Q := fun v K => Frx K v (roB l)) (.cons hv .nil) (cloneX_call l hl) (fun v K h => h)
theorem linesX_call (l : List UInt8) (hl : l.length ≤ 140737488355328) : VCall Tryd.prog 93 [roB l] ⟨[], 0⟩ (fun v K => Frx K v (linesV l)) := by
  by_cases h0 : l.length = 0
  · obtain rfl : l = [] := List.eq_nil_of_length_eq_zero h0
    refine VCall.go Tryd.func93 rfl ?_
    repeat' (first | with_reducible refine And.intro ?_ ?_ | ((with_reducible intro hc); (try simp only [zA, zB, zC, zD, zE, zF, zG, zH, zI, zJ, zK, zL, zM, zN, zO, zP, zQ, zR, zS, zT, zU, zV, zW] at hc); (first | (exact absurd rfl hc) | (exact absurd trivial hc) | (exfalso; omega) | skip)) | ((conv => whnf); first | with_reducible refine And.intro ?_ ?_ | refine ifB_intro ?_ ?_ | refine xA (by omega) ?_ | ((refine xB ?_); intro kw hk1 hk2) | refine xC (by omega) ?_ | refine xD ?_ | refine xE (by omega) ?_ | refine xF (by omega) ?_ | refine xG ?_ | refine xH ?_ | refine xI (by omega) ?_ | refine xJ (by omega) ?_ | (with_reducible refine stopA ?_) | refine Exists.intro _ (And.intro (by (first | rfl)) ?_) | refine GOp.via (by rfl) ?_ | (with_reducible first | refine stopO ?_ | refine stopE ?_ | refine stopD ?_ | refine stopW ?_ | refine stopG ?_) | (first | (refine GCall.mk ((clone_own0 _ _).mono ?_); rintro _ _ ⟨rfl, rfl⟩)) | (with_reducible refine stopC ?_) | (with_reducible refine stopR ?_)))
    exact Done'.mk (Frx.fn .nil (.cons (Frx.ptr (vs := [roB []]) rfl (.cons frx_ro0 .nil)) .nil))
  · refine VCall.go Tryd.func93 rfl ?_
    repeat' (first | with_reducible refine And.intro ?_ ?_ | ((with_reducible intro hc); (try simp only [zA, zB, zC, zD, zE, zF, zG, zH, zI, zJ, zK, zL, zM, zN, zO, zP, zQ, zR, zS, zT, zU, zV, zW] at hc); (first | (exact absurd rfl hc) | (exact absurd trivial hc) | (exfalso; omega) | skip)) | ((conv => whnf); first | with_reducible refine And.intro ?_ ?_ | refine ifB_intro ?_ ?_ | refine xA (by omega) ?_ | ((refine xB ?_); intro kw hk1 hk2) | refine xC (by omega) ?_ | refine xD ?_ | refine xE (by omega) ?_ | refine xF (by omega) ?_ | refine xG ?_ | refine xH ?_ | refine xI (by omega) ?_ | refine xJ (by omega) ?_ | (with_reducible refine stopA ?_) | refine Exists.intro _ (And.intro (by (first | rfl)) ?_) | refine GOp.via (by rfl) ?_ | (with_reducible first | refine stopO ?_ | refine stopE ?_ | refine stopD ?_ | refine stopW ?_ | refine stopG ?_) | (first | (refine GCall.mk ((clone_own h0 hl _ _).mono ?_); rintro _ _ ⟨rfl, rfl⟩)) | (with_reducible refine stopC ?_) | (with_reducible refine stopR ?_)))
    exact Done'.mk (Frx.fn .nil (.cons (Frx.ptr (vs := [.sl 2 0 l.length none 1]) rfl (.cons (frx_own rfl) .nil)) .nil))
theorem linesW_call {v : VV} {l : List UInt8} {H : Heap} (hv : View H v (roB l)) (hl : l.length ≤ 140737488355328) : VCall Tryd.prog 93 [v] H (fun x K => x = linesV l ∧ K = H) :=
  VCall.viewed (args' := [roB l]) (Q := fun v K => Frx K v (linesV l)) (.cons hv .nil) (linesX_call l hl) (fun v K h => h)
theorem splitF_call (t : List UInt8) (ht : t.length ≤ 100000) (F : List (Nat × VObj)) (h0 : hget F 0 = none) : VCall Tryd.prog 92 [.sl 0 0 t.length none 1] ⟨F ++ [(0, .cells true (t.map bV))], 5⟩ (fun v K => v = splV t ∧ K = ⟨(0, .cells true (t.map bV)) :: F, 5⟩) := by
  have one : ∀ b x, (⟨[(0, .cells true (t.map bV))], 5⟩ : Heap).get b = some x → b = 0 ∧ x = .cells true (t.map bV) := fun b x hx => by
    simp only [Heap.get] at hx
    rw [hget_cons] at hx
    split at hx
    · rename_i e; injection hx with hx; exact ⟨e.symm, hx.symm⟩
    · simp [hget] at hx
  have bes : Beside ⟨[(0, .cells true (t.map bV))], 5⟩ F := ⟨fun b x hx => by
    simp only [Heap.get]
    rw [hget_cons, if_neg (fun e => by subst e; rw [h0] at hx; cases hx)]
    rfl⟩
  refine (VCall.framed (H := ⟨F ++ [(0, .cells true (t.map bV))], 5⟩) ⟨[(0, .cells true (t.map bV))], 5⟩ F rfl (fun b x hx => ?_) (fun b x hx => ?_) bes (split0_call t ht) ?_).mono ?_
  · obtain ⟨rfl, rfl⟩ := one b x hx
    simp only [Heap.get]
    rw [hget_app, h0]
    rfl
  · simp only [Heap.get]
    rw [hget_app, hx]
  · rintro v K ⟨_, rfl⟩
    refine ⟨fun b x hx => ?_, bes⟩
    obtain ⟨rfl, rfl⟩ := one b x hx
    rfl
  · rintro v K2 ⟨K, ⟨h, rfl⟩, rfl⟩
    exact ⟨h, rfl⟩
/-- What Parse of a named text hands back: new blocks alone, and the text has stayed. -/
structure HKN (t : List UInt8) (r : HR) (v : VV) (K : Heap) : Prop where
  out : HQ r v ⟨restO [0] K.objs, K.next⟩
  txt : K.get 0 = some (.cells true (t.map bV))
end Go.Proofs.YtmmjgbdihgdekaaDoor

