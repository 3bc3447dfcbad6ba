import Derived.Test.YtpbiblhkcomekaaGreatCU1
import Derived.Test.YtpbiblhkcomekaaGreatCE5
import Derived.Test.YtpbiblhkcomekaaGreatCH1
/- code.Compile in plain words. -/
namespace Go.Proofs.YtpbiblhkcomekaaGreat
open Go Go.RowKit
set_option linter.unusedSimpArgs false
set_option linter.unusedVariables false
/-- An instruction. -/
structure Ins where
  op : Nat
  a : Nat
  text : List UInt8
deriving DecidableEq
/-- A constant: its kind, number, text. -/
structure Cst where
  kind : Nat
  num : Nat
  text : List UInt8
deriving DecidableEq
/-- The maker: variables, constants, instructions, up to where they are fixed, how deep the stack is, and was. -/
structure MkS where
  names : List (List UInt8)
  consts : List Cst
  l : List Ins
  fixed : Nat
  depth : Int
  most : Int
/-- Where something stands in a list, put behind it if it isn't there. -/
def posL {α : Type} [DecidableEq α] : List α → α → Nat
  | [], _ => 0
  | y :: r, x => if x = y then 0 else posL r x + 1
def placeL {α : Type} [DecidableEq α] (l : List α) (x : α) : Nat × List α := if x ∈ l then (posL l x, l) else (l.length, l ++ [x])
def cstN : Nd → Option Cst
  | .mk op tx nm _ => if op = 8 then some (if nm ≤ 2147483648 then ⟨1, nm, []⟩ else ⟨0, 0, []⟩) else if op = 9 then some (if tx.length ≤ 4096 then ⟨2, 0, tx⟩ else ⟨0, 0, []⟩) else if op = 10 then some ⟨0, 0, []⟩ else none
def putM (op a : Nat) (t : List UInt8) (g : Int) (m : MkS) : Nat × MkS :=
  match m.l.getLast? with
  | some x => if op = 0 ∧ m.fixed < m.l.length ∧ x.op = 0 then (m.l.length - 1, { m with l := m.l.dropLast ++ [⟨x.op, x.a + a, x.text⟩], depth := m.depth + g, most := max m.most (m.depth + g) })
    else (m.l.length, { m with l := m.l ++ [⟨op, a, t⟩], depth := m.depth + g, most := max m.most (m.depth + g) })
  | none => (m.l.length, { m with l := m.l ++ [⟨op, a, t⟩], depth := m.depth + g, most := max m.most (m.depth + g) })
def hereM (m : MkS) : MkS := { m with fixed := m.l.length }
def leadL (i : Nat) (l : List Ins) : List Ins :=
  match l[i]? with
  | some x => l.set i ⟨x.op, l.length, x.text⟩
  | none => l
def leadM (i : Nat) (m : MkS) : MkS := { m with l := leadL i m.l, fixed := m.l.length }
def nameM (x : List UInt8) (m : MkS) : Nat × MkS := ((placeL m.names x).1, { m with names := (placeL m.names x).2 })
def cstM (x : Cst) (m : MkS) : Nat × MkS := ((placeL m.consts x).1, { m with consts := (placeL m.consts x).2 })
mutual
def exprM : Nd → MkS → MkS
  | .mk op tx nm ks, m =>
    let m1 := exprL ks (putM 0 1 [] 0 m).2
    if op = 11 then (putM 2 (nameM tx m1).1 [] 1 (nameM tx m1).2).2
    else if op = 13 then (putM 5 0 tx (-1) m1).2
    else if op = 14 then (putM 6 0 tx 0 m1).2
    else if op = 12 then (putM 7 ks.length tx (1 - ks.length) m1).2
    else (putM 1 (cstM ((cstN (.mk op tx nm ks)).getD ⟨0, 0, []⟩) m1).1 [] 1 (cstM ((cstN (.mk op tx nm ks)).getD ⟨0, 0, []⟩) m1).2).2
def exprL : List Nd → MkS → MkS
  | [], m => m
  | k :: r, m => exprL r (exprM k m)
end
mutual
/-- A statement (false), or a block's statements (true). -/
def stmtM : Nd → Bool → MkS → MkS
  | .mk _ _ _ ks, true, m => stmtLM ks m
  | .mk op tx _ ks, false, m =>
    let m0 := if op = 6 then hereM m else m
    let m1 := (putM 0 1 [] 0 m0).2
    match ks with
    | [] => if op = 7 then (putM 10 0 [] 0 m1).2 else m1
    | k :: r =>
      let m2 := exprM k m1
      if op = 3 then (putM 3 (nameM tx m2).1 [] (-1) (nameM tx m2).2).2
      else if op = 4 then (putM 4 0 [] (-1) m2).2
      else match r with
        | [] => m1
        | b :: r2 =>
          let u := putM 9 0 [] (-1) m2
          let m3 := stmtM b true u.2
          if op = 5 then (match r2 with
            | [] => leadM u.1 m3
            | c :: _ =>
              let j := putM 8 0 [] 0 m3
              leadM j.1 (stmtM c true (leadM u.1 j.2)))
          else if op = 6 then leadM u.1 (putM 8 m.l.length [] 0 m3).2
          else m1
def stmtLM : List Nd → MkS → MkS
  | [], m => m
  | k :: r, m => stmtLM r (stmtM k false m)
end
/-- A handler: its name, its parameters' variables, its instructions. -/
structure Hnd where
  name : List UInt8
  params : List Nat
  code : List Ins
end Go.Proofs.YtpbiblhkcomekaaGreat

/- A call's end told at other names; a store into a row that may be nil. Over any program. -/
namespace Go.Proofs.YtpbiblhkcomekaaGreat
open Go Go.RowKit
set_option linter.unusedSimpArgs false
set_option linter.unusedVariables false
section
variable {P : Program} {f : FuncId} {args : List VV} {H : Heap}
/-- What is asked of other names R for what is handed back. -/
abbrev FinR (n0 : Nat) (Q' : VV → Heap → Prop) (v : VV) (K : Heap) : Prop := ∃ (R : List (Nat × Nat)) (u : VV) (O2 : List (Nat × VObj)) (nx : Nat), (wfR 0 nx R && nodupB (ksOf R 0 O2) && O2.all (fun p => (srcN R p.1).isSome) && O2.all (fun p => p.2.rw)) = true ∧ R.all (fun p => match Nat.blt p.2 n0 with
    | true => Nat.beq p.1 p.2
    | false => true) = true ∧ Nat.ble n0 nx = true ∧ RenV R 0 v u ∧ RenG R 0 K O2 ∧ Q' u ⟨O2, nx⟩
theorem fin_core {Q' : VV → Heap → Prop} {B : World} {M Z Z' : Nat → Prop} {ρ ρ2 : Nat → Option (Nat × Nat)} {w w' : World} {v : VV} {v' : Value} {K1 : Heap} {e : Ending} (he : e = .returned v') (h1 : Rel B M Z ρ H w) (q : FinR H.next Q' v K1) (e1 : Ext (own B M) H.next Z ρ w K1.next Z' ρ2 w') (r2 : Rel B M Z' ρ2 K1 w') (v2 : VRel w' Z' ρ2 v v') :
    ∃ v' v H' Z' ρ', e = .returned v' ∧ Q' v H' ∧ Ext (own B M) H.next Z ρ w H'.next Z' ρ' w' ∧ Rel B M Z' ρ' H' w' ∧ VRel w' Z' ρ' v v' := by
  obtain ⟨R2, u, O2, nx2, hwf, hid, hnx, hval, hobj, q'⟩ := q
  simp only [Bool.and_eq_true] at hwf
  obtain ⟨⟨⟨w1, w2⟩, w3⟩, w4⟩ := hwf
  have hnx := Nat.le_of_ble_eq_true hnx
  have hO := hobj.toH
  have key : ∀ p ∈ R2, (if p.2 < H.next then ρ p.2 else (srcN R2 p.2).bind ρ2) = ρ2 p.1 := by
    intro p hp
    obtain ⟨g1, g2, g3⟩ := wfR_src w1 p hp
    by_cases hlt : p.2 < H.next
    · rw [if_pos hlt]
      have h4 := List.all_eq_true.1 hid p hp
      rw [blt_iff.2 hlt] at h4
      have h5 : p.1 = p.2 := Nat.eq_of_beq_eq_true h4
      rw [h5]
      exact (e1.rold p.2 hlt).symm
    · rw [if_neg hlt, g3]; rfl
  have hl2 : Links R2 0 ρ2 (fun b => if b < H.next then ρ b else (srcN R2 b).bind ρ2) := ⟨fun b hb => by omega, fun p hp c hc => by
    show (if p.2 < H.next then ρ p.2 else (srcN R2 p.2).bind ρ2) = some c
    rw [key p hp]; exact hc⟩
  refine ⟨v', u, _, Z', fun b => if b < H.next then ρ b else (srcN R2 b).bind ρ2, he, q', ⟨hnx, fun b hb => if_pos hb, e1.zsub, fun b k hk => ?_, e1.keep, e1.size, e1.znew⟩, ?_, hval _ _ _ _ _ hl2 v2⟩
  · have hlt : b < H.next := by
      rcases Nat.lt_or_ge b H.next with g | g
      · exact g
      · rw [h1.dom b g] at hk; cases hk
    rw [if_pos hlt]; exact hk
  · have src : ∀ b y, hget O2 b = some y → ∃ a x, srcN R2 b = some a ∧ K1.get a = some x ∧ RenO R2 0 x y := fun b y hy => by
      rcases hO.get hy with ⟨g1, g2, g3⟩ | ⟨a, x, g1, g2, g3, g4, g5⟩
      · have := List.all_eq_true.1 w3 _ g3
        simp only at this
        rw [srcOf0] at g1
        rw [g1] at this
        cases this
      · exact ⟨a, x, (srcOf0 R2 b).symm.trans g1, g2, g3⟩
    refine ⟨r2.glob, r2.os, r2.tape, r2.output, r2.size, r2.frame, fun b hb => ?_, fun b x hx => ?_, ?_, ?_, r2.zlt⟩
    · have hb : nx2 ≤ b := hb
      show (if b < H.next then ρ b else (srcN R2 b).bind ρ2) = none
      rw [if_neg (by omega)]
      cases hs : srcN R2 b with
      | none => rfl
      | some a =>
        have := (wfR_src w1 _ (srcN_mem hs)).2.1
        simp only at this
        omega
    · obtain ⟨a, x0, g1, _⟩ := src b x hx
      exact (wfR_src w1 _ (srcN_mem g1)).2.1
    · intro b b' k N N' x x' hx hx' hb hb'
      obtain ⟨a, x0, g1, g2, g3⟩ := src b x hx
      obtain ⟨a', x0', g1', g2', g3'⟩ := src b' x' hx'
      have e2 := key (a, b) (srcN_mem g1)
      have e2' := key (a', b') (srcN_mem g1')
      simp only at e2 e2' hb hb'
      rw [e2] at hb
      rw [e2'] at hb'
      have := r2.inj a a' k N N' x0 x0' g2 g2' hb hb'
      subst this
      exact hO.inj w2 hx hx' ((srcOf0 R2 b).trans g1) ((srcOf0 R2 b').trans g1')
    · intro b x hx
      obtain ⟨a, x0, g1, g2, g3⟩ := src b x hx
      have e2 := key (a, b) (srcN_mem g1)
      simp only at e2
      show (x.ghost = true ∧ (if b < H.next then ρ b else (srcN R2 b).bind ρ2) = none) ∨ _
      rcases r2.obj a x0 g2 with ⟨q1, q2⟩ | ⟨k, N, o, q1, q2, q3, q4, q5⟩
      · exact .inl ⟨g3.ghost q1, e2.trans q2⟩
      exact .inr ⟨k, N, o, e2.trans q1, q2, g3.orel hl2 q3, q4, fun h => q5 (by rw [← g3.rw]; exact h)⟩
/-- What a call hands back, told at names of its own: those of old stay what they are, the new ones are as R says. -/
theorem VCall.fin {Q' : VV → Heap → Prop} (h : VCall P f args H (FinR H.next Q')) : VCall P f args H Q' := fun B M Z ρ w ra h1 h2 =>
  (h B M Z ρ w ra h1 h2).mono fun e w' ⟨v', v, K1, Z', ρ2, he, q, e1, r2, v2⟩ => fin_core he h1 q e1 r2 v2
/-- The same for a round. -/
theorem VRound.fin {l : Nat} {Q' : VV → Heap → Prop} (h : VRound P l args H (fun v K => Done' (FinR H.next Q' v K))) : VRound P l args H Q' := fun B M Z ρ w ra k N hk h1 h2 => by
  obtain ⟨fn, tmps, asg, bd, hr, h⟩ := h B M Z ρ w ra k N hk h1 h2
  refine ⟨fn, tmps, asg, bd, hr, RoundIn.mono h ?_⟩
  rintro e w' ⟨v', v, K1, Z', ρ2, he, q, e1, r2, v2⟩
  exact fin_core he h1 q.out e1 r2 v2
end
theorem hset_hset (b : Nat) (x y : VObj) : ∀ (O : List (Nat × VObj)), hset (hset O b x) b y = hset O b y
  | [] => by simp [hset]
  | (k, z) :: r => by
    have ih := hset_hset b x y r
    cases e : Nat.beq k b <;> simp only [hset, e, ih]
theorem hget_hset_self {b : Nat} (x : VObj) : ∀ {O : List (Nat × VObj)} {y : VObj}, hget O b = some y → hget (hset O b x) b = some x
  | [], y, h => by simp [hget] at h
  | (k, z) :: r, y, h => by
    cases e : Nat.beq k b with
    | true =>
      have e2 := Nat.eq_of_beq_eq_true e
      subst e2
      simp only [hset, e]
      rw [hget_cons, if_pos rfl]
    | false =>
      have e2 : ¬ k = b := fun h => by subst h; rw [Nat.beq_refl] at e; cases e
      rw [hget_cons, if_neg e2] at h
      have ih := hget_hset_self x h
      simp only [hset, e]
      rw [hget_cons, if_neg e2, ih]
/-- A store into a slice that may be nil, but isn't. -/
theorem GOp'.stOpt {P : Program} {o : Oper} {ts : List VV} {H : Heap} {K : VV → Heap → Prop} {b q q' n : Nat} {us l : List VV} {t : TypeId} {a x : Operand} (ho : o.op = .store t a x) (ha : veval ts a = .ptr b q) (hx : cellsOf (veval ts x) = some l) (hz : vsize P t = some n) (hn : l.length = n) (hle : q' + n ≤ us.length) (hg : H.get b = some (.opt us)) (hq : q = q') (k : K (.tp []) (H.set b (.opt (setRun us q' l)))) : GOp' P o ts H K := by
  subst hq
  have h2 : Nat.ble (q + l.length) us.length = true := Nat.ble_eq_true_of_le (by omega)
  have h3 : Nat.beq l.length n = true := by rw [hn]; exact Nat.beq_refl _
  have hv : vop P o ts (H.set b (.cells true us)) = some (.tp [], (H.set b (.cells true us)).set b (.cells true (setRun us q l))) := by
    refine vop_store ho ?_
    rw [ha]
    have hg2 : (H.set b (.cells true us)).get b = some (.cells true us) := hget_hset_self _ hg
    simp only [vstore, hg2, hx, hz, h3, h2, Bool.and_self]
  refine GOp'.mk ⟨?_⟩
  intro B M Z ρ av w rr KK QE g1 g2 g3
  have hp := veval_rel g2 a
  rw [ha] at hp
  have hex : ∃ kk N, ρ b = some (kk, N) := by
    generalize av.eval a = y at hp
    cases hp with
    | ptr h => exact ⟨_, _, h⟩
  obtain ⟨kk, N, hk⟩ := hex
  refine (VOne.plain hv) B M Z ρ av w rr KK QE (g1.toCells hg hk) g2 ?_
  rintro v' v H' Z' ρ' w' ⟨rfl, rfl⟩ e1 r1 v1
  have r2 := r1.toOpt (b := b) (vs := setRun us q l) (hget_hset_self (y := .cells true us) _ (hget_hset_self _ hg))
  refine g3 v' _ _ Z' ρ' w' k e1 ?_ v1
  have e3 : ((H.set b (.cells true us)).set b (.cells true (setRun us q l))).set b (.opt (setRun us q l)) = H.set b (.opt (setRun us q l)) := by
    simp only [Heap.set, hset_hset]
  rw [e3] at r2
  exact r2
end Go.Proofs.YtpbiblhkcomekaaGreat

/- A maker's state as the program holds it; a call of one of its methods, told at its own names, used at any. -/
namespace Go.Proofs.YtpbiblhkcomekaaGreat
open Go Go.RowKit
set_option linter.unusedSimpArgs false
set_option linter.unusedVariables false
/-- Rows, one behind the other. -/
def rowsF {α : Type} (f : α → List VV) : List α → List VV
  | [] => []
  | x :: r => f x ++ rowsF f r
section
variable {α : Type} {f : α → List VV} {z : Nat}
theorem rowsF_len (hz : ∀ x, (f x).length = z) : ∀ l : List α, (rowsF f l).length = l.length * z
  | [] => by simp [rowsF]
  | x :: r => by
    rw [rowsF, List.length_append, hz, rowsF_len hz r, List.length_cons, Nat.add_mul]
    omega
theorem rowsF_snoc (x : α) : ∀ l : List α, rowsF f (l ++ [x]) = rowsF f l ++ f x
  | [] => by simp only [List.nil_append, rowsF, List.append_nil]
  | y :: r => by rw [List.cons_append, rowsF, rowsF, rowsF_snoc x r, List.append_assoc]
theorem rowsF_nl (hn : ∀ x, ∀ v ∈ f x, Nameless v) : ∀ l : List α, ∀ v ∈ rowsF f l, Nameless v
  | [], v, h => by simp [rowsF] at h
  | x :: r, v, h => by
    rw [rowsF] at h
    rcases List.mem_append.1 h with h | h
    · exact hn x v h
    · exact rowsF_nl hn r v h
theorem rowsF_at (hz : ∀ x, (f x).length = z) {j : Nat} (hj : j < z) : ∀ {l : List α} {i : Nat} {x : α}, l[i]? = some x → (rowsF f l)[i * z + j]? = (f x)[j]?
  | [], i, x, h => by simp at h
  | y :: r, 0, x, h => by
    simp at h
    subst h
    rw [rowsF, List.getElem?_append_left (by rw [hz]; omega), Nat.zero_mul, Nat.zero_add]
  | y :: r, i + 1, x, h => by
    rw [rowsF, List.getElem?_append_right (by rw [hz, Nat.add_mul]; omega), hz]
    have e : (i + 1) * z + j - z = i * z + j := by rw [Nat.add_mul]; omega
    rw [e]
    exact rowsF_at hz hj (by simpa using h)
theorem rowsF_set (hz : ∀ x, (f x).length = z) {j : Nat} (hj : j < z) (v : VV) (x' : α) : ∀ {l : List α} {i : Nat} {x : α}, l[i]? = some x → f x' = (f x).set j v → (rowsF f l).set (i * z + j) v = rowsF f (l.set i x')
  | [], i, x, h, _ => by simp at h
  | y :: r, 0, x, h, e => by
    simp at h
    subst h
    rw [rowsF, Nat.zero_mul, Nat.zero_add, List.set_append_left _ _ (by rw [hz]; omega), ← e, List.set_cons_zero, rowsF]
  | y :: r, i + 1, x, h, e => by
    have e2 : (i + 1) * z + j - z = i * z + j := by rw [Nat.add_mul]; omega
    rw [rowsF, List.set_append_right _ _ (by rw [hz, Nat.add_mul]; omega), hz, e2, rowsF_set hz hj v x' (by simpa using h) e, List.set_cons_succ, rowsF]
end
def insC (x : Ins) : List VV := [iV x.op, iV x.a, strV x.text]
def cstC (x : Cst) : List VV := [iV x.kind, iV x.num, strV x.text]
def opsR (l : List Ins) : List VV := rowsF insC l
def cstR (l : List Cst) : List VV := rowsF cstC l
def nmR (l : List (List UInt8)) : List VV := l.map strV
theorem insC_len (x : Ins) : (insC x).length = 3 := rfl
theorem cstC_len (x : Cst) : (cstC x).length = 3 := rfl
theorem insC_nl (x : Ins) : ∀ v ∈ insC x, Nameless v := fun v hv => by
  simp only [insC, List.mem_cons, List.not_mem_nil, or_false] at hv
  rcases hv with rfl | rfl | rfl
  · exact nameless_sc _
  · exact nameless_sc _
  · exact nameless_strV _
theorem cstC_nl (x : Cst) : ∀ v ∈ cstC x, Nameless v := fun v hv => by
  simp only [cstC, List.mem_cons, List.not_mem_nil, or_false] at hv
  rcases hv with rfl | rfl | rfl
  · exact nameless_sc _
  · exact nameless_sc _
  · exact nameless_strV _
theorem opsR_nl (l : List Ins) : ∀ v ∈ opsR l, Nameless v := rowsF_nl insC_nl l
theorem cstR_nl (l : List Cst) : ∀ v ∈ cstR l, Nameless v := rowsF_nl cstC_nl l
theorem nmR_nl (l : List (List UInt8)) : ∀ v ∈ nmR l, Nameless v := nameless_map nameless_strV l
theorem opsR_len (l : List Ins) : (opsR l).length = l.length * 3 := rowsF_len insC_len l
theorem cstR_len (l : List Cst) : (cstR l).length = l.length * 3 := rowsF_len cstC_len l
theorem nmR_len (l : List (List UInt8)) : (nmR l).length = l.length * 1 := by unfold nmR; rw [List.length_map, Nat.mul_one]
theorem opsR_snoc (l : List Ins) (x : Ins) : opsR (l ++ [x]) = opsR l ++ [iV x.op, iV x.a, strV x.text] := rowsF_snoc x l
theorem cstR_snoc (l : List Cst) (x : Cst) : cstR (l ++ [x]) = cstR l ++ [iV x.kind, iV x.num, strV x.text] := rowsF_snoc x l
theorem nmR_snoc (l : List (List UInt8)) (x : List UInt8) : nmR (l ++ [x]) = nmR l ++ [strV x] := by unfold nmR; simp
/-- The program's block, variables and constants, the maker's block, instructions. -/
def mkO (a b c : Nat) (s : MkS) (x : VV) : List (Nat × VObj) :=
  [(0, .cells true [.gs a s.names.length 1, .gs b s.consts.length 3, .mp 2, x]), (1, .cells true [.ptr 0 0, .gs c s.l.length 3, iV s.fixed, iV s.depth, iV s.most]), (a, .opt (nmR s.names)), (b, .opt (cstR s.consts)), (c, .opt (opsR s.l))]
/-- An argument that names nothing, or a place of both blocks. -/
def MArg (v : VV) : Prop := Nameless v ∨ ∃ o, v = .ptr 0 o ∨ v = .ptr 1 o
/-- A method's call at its own names. -/
def MkC (f : FuncId) (args : List VV) (s : MkS) (u : VV) (s' : MkS) : Prop := ∀ x, Nameless x → VCall Tryz.prog f args ⟨mkO 3 4 5 s x, 6⟩ (fun v K => v = u ∧ K = ⟨mkO 6 7 8 s' x, 9⟩)
theorem mkO_p {R : List (Nat × Nat)} {a b a' b' n k : Nat} {x : VV} (hx : Nameless x) (ha : (a, a') ∈ R) (hb : (b, b') ∈ R) (h2 : (2, 2) ∈ R) : RenO R 0 (.cells true [.gs a n 1, .gs b k 3, .mp 2, x]) (.cells true [.gs a' n 1, .gs b' k 3, .mp 2, x]) := .cells (.cons (.gs ha) (.cons (.gs hb) (.cons (.mp h2) (.cons (.of hx) .nil))))
theorem mkO_m {R : List (Nat × Nat)} {c c' n : Nat} {i d e : Int} (hc : (c, c') ∈ R) (h0 : (0, 0) ∈ R) : RenO R 0 (.cells true [.ptr 0 0, .gs c n 3, iV i, iV d, iV e]) (.cells true [.ptr 0 0, .gs c' n 3, iV i, iV d, iV e]) := .cells (.cons (.ptr h0) (.cons (.gs hc) (.cons (.of (nameless_sc _)) (.cons (.of (nameless_sc _)) (.cons (.of (nameless_sc _)) .nil)))))
theorem margs {R : List (Nat × Nat)} (h0 : (0, 0) ∈ R) (h1 : (1, 1) ∈ R) : ∀ {l : List VV}, (∀ v ∈ l, MArg v) → RenL R 0 l l
  | [], _ => .nil
  | v :: r, h => by
    refine .cons ?_ (margs h0 h1 fun u hu => h u (List.mem_cons_of_mem _ hu))
    rcases h v (List.mem_cons_self ..) with hv | ⟨o, rfl | rfl⟩
    · exact .of hv
    · exact .ptr h0
    · exact .ptr h1
theorem wfR_mk {N : Nat} : ∀ {R : List (Nat × Nat)}, (∀ p ∈ R, p.2 < N) → (R.map (·.2)).Nodup → wfR 0 N R = true
  | [], _, _ => rfl
  | (a, b) :: r, h, hn => by
    rw [List.map_cons, List.nodup_cons] at hn
    have ih := wfR_mk (fun p hp => h p (List.mem_cons_of_mem _ hp)) hn.2
    have h1 : Nat.blt b N = true := blt_iff.2 (h (a, b) (List.mem_cons_self ..))
    have h2 : (srcN r b).isNone = true := by
      cases e : srcN r b with
      | none => rfl
      | some c => exact absurd (List.mem_map.2 ⟨_, srcN_mem e, rfl⟩) hn.1
    simp only [wfR, Nat.ble_eq_true_of_le (Nat.zero_le b), h1, h2, ih, Bool.and_self]
theorem nodupB_mk : ∀ {l : List Nat}, l.Nodup → nodupB l = true
  | [], _ => rfl
  | a :: r, h => by
    rw [List.nodup_cons] at h
    simp only [nodupB, nodupB_mk h.2, Bool.and_true, List.all_eq_true]
    intro b hb
    have : Nat.beq a b = false := beq_ne fun e => h.1 (e ▸ hb)
    rw [this]
    rfl
/-- Three names of blocks, apart, below n. -/
structure Nm3 (a b c n : Nat) : Prop where
  h : 3 ≤ a ∧ 3 ≤ b ∧ 3 ≤ c ∧ a ≠ b ∧ a ≠ c ∧ b ≠ c ∧ a < n ∧ b < n ∧ c < n
/-- The same at any names. -/
theorem MkC.at {f : FuncId} {args : List VV} {s s' : MkS} {u x : VV} {a b c n : Nat} (hb : Nm3 a b c n) (hx : Nameless x) (hu : Nameless u) (ha : ∀ v ∈ args, MArg v) (h : MkC f args s u s') {H : Heap}
    (g0 : H.get 0 = some (.cells true [.gs a s.names.length 1, .gs b s.consts.length 3, .mp 2, x])) (g1 : H.get 1 = some (.cells true [.ptr 0 0, .gs c s.l.length 3, iV s.fixed, iV s.depth, iV s.most])) (g3 : H.get a = some (.opt (nmR s.names))) (g4 : H.get b = some (.opt (cstR s.consts))) (g5 : H.get c = some (.opt (opsR s.l))) (hn : H.next = n) :
    VCall Tryz.prog f args H (fun v K => v = u ∧ K = ⟨mkO n (n + 1) (n + 2) s' x ++ restO [0, 1, a, b, c] H.objs, n + 3⟩) := by
  refine VCall.live fun hlive => ?_
  obtain ⟨objs, nx⟩ := H
  simp only at hn
  subst hn
  obtain ⟨p1, p2, p3, p4, p5, p6, p7, p8, p9⟩ := hb.h
  have g : ∀ i : Nat, memN i [0, 1, a, b, c] = true → (⟨keepO [0, 1, a, b, c] objs, nx⟩ : Heap).get i = (⟨objs, nx⟩ : Heap).get i := fun i hi => by
    show hget (keepO [0, 1, a, b, c] objs) i = hget objs i
    rw [hget_keepO, hi]
  refine VCall.at (n1 := 6) (O1 := mkO 3 4 5 s x) [0, 1, a, b, c] [(0, 0), (1, 1), (2, 2), (a, 3), (b, 4), (c, 5)] ?_
    ⟨⟨_, (g 0 (memN_iff.2 (by simp))).trans g0, mkO_p hx (by simp) (by simp) (by simp)⟩, ⟨_, (g 1 (memN_iff.2 (by simp))).trans g1, mkO_m (by simp) (by simp)⟩, ⟨_, (g a (memN_iff.2 (by simp))).trans g3, .opt (RenL.of (nmR_nl _))⟩, ⟨_, (g b (memN_iff.2 (by simp))).trans g4, .opt (RenL.of (cstR_nl _))⟩, ⟨_, (g c (memN_iff.2 (by simp))).trans g5, .opt (RenL.of (opsR_nl _))⟩, trivial⟩
    (margs (by simp) (by simp) ha) (h x hx) ?_
  · show (wfR 0 6 [(0, 0), (1, 1), (2, 2), (a, 3), (b, 4), (c, 5)] && nodupB [0, 1, a, b, c] && _) = true
    rw [nodupB_mk (by simp; omega)]
    rfl
  rintro v K ⟨rfl, rfl⟩
  have e0 : backR [(0, 0), (1, 1), (2, 2), (a, 3), (b, 4), (c, 5)] 6 nx (9 - 6) = [(8, nx + 2), (7, nx + 1), (6, nx), (0, 0), (1, 1), (2, 2), (3, a), (4, b), (5, c)] := rfl
  have hw : wfR 0 (nx + 3) [(8, nx + 2), (7, nx + 1), (6, nx), (0, 0), (1, 1), (2, 2), (3, a), (4, b), (5, c)] = true := by
    refine wfR_mk ?_ ?_
    · simp only [List.mem_cons, List.not_mem_nil, or_false, forall_eq_or_imp, forall_eq]
      omega
    · simp only [List.map_cons, List.map_nil, List.nodup_cons, List.mem_cons, List.not_mem_nil, or_false, not_false_eq_true, List.nodup_nil, and_true, not_or]
      omega
  have sr : ∀ i j : Nat, (i, j) ∈ [(8, nx + 2), (7, nx + 1), (6, nx), (0, 0), (1, 1), (2, 2), (3, a), (4, b), (5, c)] → srcN [(8, nx + 2), (7, nx + 1), (6, nx), (0, 0), (1, 1), (2, 2), (3, a), (4, b), (5, c)] j = some i := fun i j hj => (wfR_src hw (i, j) hj).2.2
  have t0 := sr 0 0 (by simp)
  have t1 := sr 1 1 (by simp)
  have t3 := sr 6 nx (by simp)
  have t4 := sr 7 (nx + 1) (by simp)
  have t5 := sr 8 (nx + 2) (by simp)
  refine ⟨v, mkO nx (nx + 1) (nx + 2) s' x, ⟨?_, .of hu, ?_⟩, ?_, rfl, rfl⟩
  · show (wfR 0 (nx + 3) (backR _ 6 nx (9 - 6)) && nodupB (ksOf (backR _ 6 nx (9 - 6)) 0 (mkO nx (nx + 1) (nx + 2) s' x)) && (mkO nx (nx + 1) (nx + 2) s' x).all (fun p => (srcN (backR _ 6 nx (9 - 6)) p.1).isSome) && _) = true
    rw [e0, hw]
    simp only [mkO, ksOf, srcOf0, t0, t1, t3, t4, t5, List.all_cons, List.all_nil]
    rfl
  · show RenG (backR _ 6 nx (9 - 6)) 0 ⟨mkO 6 7 8 s' x, 9⟩ _
    rw [e0]
    refine ⟨?_, ?_, ?_, ?_, ?_, trivial⟩
    · rw [srcOf0, t0]; exact ⟨_, rfl, mkO_p hx (by simp) (by simp) (by simp)⟩
    · rw [srcOf0, t1]; exact ⟨_, rfl, mkO_m (by simp) (by simp)⟩
    · rw [srcOf0, t3]; exact ⟨_, rfl, .opt (RenL.of (nmR_nl _))⟩
    · rw [srcOf0, t4]; exact ⟨_, rfl, .opt (RenL.of (cstR_nl _))⟩
    · rw [srcOf0, t5]; exact ⟨_, rfl, .opt (RenL.of (opsR_nl _))⟩
  · have hl : ∀ i y, hget objs i = some y → i < nx := hlive
    have m0 := memB_restO (D := [0, 1, a, b, c]) (b := 0) (memN_iff.2 (by simp)) objs
    have m1 := memB_restO (D := [0, 1, a, b, c]) (b := 1) (memN_iff.2 (by simp)) objs
    have m3 := memB_live (D := [0, 1, a, b, c]) hl (show nx ≤ nx by omega)
    have m4 := memB_live (D := [0, 1, a, b, c]) hl (show nx ≤ nx + 1 by omega)
    have m5 := memB_live (D := [0, 1, a, b, c]) hl (show nx ≤ nx + 2 by omega)
    simp only [mkO, List.all_cons, List.all_nil, m0, m1, m3, m4, m5]
    rfl
/-- A walk's end, told at the names that are asked. -/
theorem MkC.of {f : FuncId} {args : List VV} {s s' : MkS} {u : VV} (hu : Nameless u) (h : ∀ x, Nameless x → VCall Tryz.prog f args ⟨mkO 3 4 5 s x, 6⟩ (fun v K => v = u ∧ ∃ a b c, nodupB [0, 1, a, b, c] = true ∧ Gets K (mkO a b c s' x))) : MkC f args s u s' := fun x hx => by
  refine VCall.fin ((h x hx).mono ?_)
  rintro v K ⟨rfl, a, b, c, hd, hg⟩
  refine ⟨[(0, 0), (1, 1), (2, 2), (a, 6), (b, 7), (c, 8)], v, mkO 6 7 8 s' x, 9, ?_, rfl, rfl, .of hu, ?_, rfl, rfl⟩
  · show (wfR 0 9 [(0, 0), (1, 1), (2, 2), (a, 6), (b, 7), (c, 8)] && nodupB [0, 1, a, b, c] && _ && _) = true
    rw [hd]
    rfl
  · obtain ⟨h0, h1, h3, h4, h5, _⟩ := hg
    exact ⟨⟨_, h0, mkO_p hx (by simp) (by simp) (by simp)⟩, ⟨_, h1, mkO_m (by simp) (by simp)⟩, ⟨_, h3, .opt (RenL.of (nmR_nl _))⟩, ⟨_, h4, .opt (RenL.of (cstR_nl _))⟩, ⟨_, h5, .opt (RenL.of (opsR_nl _))⟩, trivial⟩
end Go.Proofs.YtpbiblhkcomekaaGreat

/- code.place, walked: where a text or a value stands in a list, or it is put behind it. -/
namespace Go.Proofs.YtpbiblhkcomekaaGreat
open Go Go.RowKit
set_option linter.unusedSimpArgs false
set_option linter.unusedVariables false
set_option maxRecDepth 100000
set_option maxHeartbeats 8000000
/-- Where something stands; -1: nowhere. -/
def idxF {α : Type} [DecidableEq α] (x : α) : Nat → List α → Int
  | _, [] => -1
  | i, y :: r => if x = y then (i : Int) else idxF x (i + 1) r
theorem idxF_eq {α : Type} [DecidableEq α] (x : α) : ∀ (l : List α) (i : Nat), idxF x i l = if x ∈ l then ((i + posL l x : Nat) : Int) else -1
  | [], i => by simp [idxF]
  | y :: r, i => by
    rw [idxF, posL]
    by_cases h : x = y
    · subst h
      simp
    · rw [if_neg h, idxF_eq x r (i + 1), if_neg h]
      by_cases hm : x ∈ r
      · rw [if_pos hm, if_pos (List.mem_cons_of_mem _ hm)]
        omega
      · rw [if_neg hm, if_neg (by simp [h, hm])]
theorem drop_atF {α : Type} {l : List α} {i : Nat} {x : α} (h : l[i]? = some x) : l.drop i = x :: l.drop (i + 1) := by
  obtain ⟨hi, e⟩ := List.getElem?_eq_some_iff.1 h
  rw [List.drop_eq_getElem_cons hi, e]
theorem idxS_call (l : List (List UInt8)) (hl : l.length ≤ 1000000) (x : List UInt8) (H : Heap) : VCall Tryz.prog 79 [.ro l.length (nmR l), strV x] H (fun v K => v = iV (idxF x 0 l) ∧ K = H) := by
  refine VCall.pure (by intro v hv; simp only [List.mem_cons, List.not_mem_nil, or_false] at hv; rcases hv with rfl | rfl; exact nameless_ro (nmR_nl l); exact nameless_strV _) (nameless_sc _) ?_
  generalize hR : idxF x 0 l = R
  refine VCall.go Tryz.func79 rfl ?_
  have hb : True := trivial
  (repeat' (first|with_reducible refine And.intro ?_ ?_|(with_reducible intro hc;(try simp only [zz] at hc);try exact ct)|exact Is.mk rfl rfl|((conv => whnf);first|with_reducible refine And.intro ?_ ?_|with_reducible intro hx|exact Is.mk rfl rfl|(with_reducible first|apply Val.via|apply ValH.via)|refine sp ?_|refine vx (by (first|exact hb|exact vat_of vagg_str hb (mul1 rfl rfl)|exact vat_cst hb rfl|exact vat_of rfl rfl rfl|rfl)) ?_|refine GWP.drawY mixed _ (by kernel_rfl) (by rfl) ?_|fail|refine sq ?_)))
  (all_goals (first|omega|contradiction|skip))
  (refine GWP'.mk (GWP.loopB [] (fun (i : Nat) => i ≤ l.length ∧ idxF x i (l.drop i) = R) (fun i => [(8, iV i)]) (fun _ => []) 0 (fun i => l.length - i) 0 ⟨Nat.zero_le _, hR⟩ ?_); (conv => whnf); refine And.intro ?_ ?_)
  · focus (refine ka [] ?_ ?_;all_goals (repeat' (first|exact rz|refine And.intro ?_ ?_|refine Exists.intro _ (And.intro rfl ?_)|refine ro ?_|refine RenL.cons ?_ ?_|fail|exact rv)))
  rintro i ⟨g1, g2⟩
  simp only at g1 g2 ⊢
  by_cases hil : i < l.length
  · obtain ⟨b, hb0⟩ := list_at hil
    have hb : (nmR l)[i]? = some (strV b) := maps_at hb0
    rw [drop_atF hb0, idxF] at g2
    by_cases hcb : x = b
    · rw [if_pos hcb] at g2
      subst g2 hcb
      (repeat' (first|with_reducible refine And.intro ?_ ?_|(with_reducible intro hc;(try simp only [zz] at hc);try exact ct)|exact Is.mk rfl rfl|((conv => whnf);first|with_reducible refine And.intro ?_ ?_|with_reducible intro hx|exact Is.mk rfl rfl|(with_reducible first|apply Val.via|apply ValH.via)|refine sp ?_|refine vx (by (first|exact hb|exact vat_of vagg_str hb (mul1 rfl rfl)|exact vat_cst hb rfl|exact vat_of rfl rfl rfl|rfl)) ?_|refine GWP.drawY mixed _ (by kernel_rfl) (by rfl) ?_|fail|refine sq ?_)))
      (all_goals (first|omega|contradiction|skip))
      all_goals (first|(exact absurd rfl (by simpa using hc))|exact Done'.mk rfl)
    · rw [if_neg hcb] at g2
      (repeat' (first|with_reducible refine And.intro ?_ ?_|(with_reducible intro hc;(try simp only [zz] at hc);try exact ct)|exact Is.mk rfl rfl|((conv => whnf);first|with_reducible refine And.intro ?_ ?_|with_reducible intro hx|exact Is.mk rfl rfl|(with_reducible first|apply Val.via|apply ValH.via)|refine sp ?_|refine vx (by (first|exact hb|exact vat_of vagg_str hb (mul1 rfl rfl)|exact vat_cst hb rfl|exact vat_of rfl rfl rfl|rfl)) ?_|refine GWP.drawY mixed _ (by kernel_rfl) (by rfl) ?_|fail|refine sq ?_)))
      (all_goals (first|omega|contradiction|skip))
      all_goals (first|(exact absurd (by simpa using hc) hcb)|skip)
      focus (refine Done'.mk ⟨i + 1,⟨by omega,g2⟩,?_,ka [] ?_ ?_⟩;(first|omega|(simp only;omega));all_goals (repeat' (first|exact rz|refine And.intro ?_ ?_|refine Exists.intro _ (And.intro rfl ?_)|refine ro ?_|refine RenL.cons ?_ ?_|exact RenV.eq (scI_eq (by omega)) (nameless_sc _)|exact rv)))
  · obtain rfl : i = l.length := by omega
    rw [List.drop_length, idxF] at g2
    subst g2
    (repeat' (first|with_reducible refine And.intro ?_ ?_|(with_reducible intro hc;(try simp only [zz] at hc);try exact ct)|exact Is.mk rfl rfl|((conv => whnf);first|with_reducible refine And.intro ?_ ?_|with_reducible intro hx|exact Is.mk rfl rfl|(with_reducible first|apply Val.via|apply ValH.via)|refine sp ?_|refine vx (by (first|exact hb|exact vat_of vagg_str hb (mul1 rfl rfl)|exact vat_cst hb rfl|exact vat_of rfl rfl rfl|rfl)) ?_|refine GWP.drawY mixed _ (by kernel_rfl) (by rfl) ?_|fail|refine sq ?_)))
    (all_goals (first|omega|contradiction|skip))
    all_goals exact Done'.mk rfl
theorem rowsF_run {α : Type} {f : α → List VV} {z : Nat} (hz : ∀ x, (f x).length = z) : ∀ {l : List α} {i : Nat} {x : α}, l[i]? = some x → ((rowsF f l).drop (i * z)).take z = f x ∧ i * z + z ≤ (rowsF f l).length
  | [], i, x, h => by simp at h
  | y :: r, 0, x, h => by
    simp at h
    subst h
    rw [rowsF, Nat.zero_mul, List.drop_zero, List.length_append, hz]
    refine ⟨?_, by omega⟩
    rw [List.take_append_of_le_length (by rw [hz]; exact Nat.le_refl _), List.take_of_length_le (by rw [hz]; exact Nat.le_refl _)]
  | y :: r, i + 1, x, h => by
    obtain ⟨h1, h2⟩ := rowsF_run hz (l := r) (i := i) (x := x) (by simpa using h)
    have e : (i + 1) * z = (f y).length + i * z := by rw [hz, Nat.add_mul]; omega
    rw [rowsF, e, ← List.drop_drop, List.drop_left, List.length_append, hz]
    exact ⟨h1, by omega⟩
theorem vat_cst {l : List Cst} {i o : Nat} {x : Cst} (h : l[i]? = some x) (ho : o = i * 3) : vat Tryz.prog 54 (cstR l) o = some (.ag [iV x.kind, iV x.num, strV x.text]) := by
  subst ho
  obtain ⟨h1, h2⟩ := rowsF_run cstC_len h
  have h0 : vagg Tryz.prog 54 = some true := by kernel_rfl
  have hz : vsize Tryz.prog 54 = some 3 := by kernel_rfl
  have h3 : Nat.ble (i * 3 + 3) (rowsF cstC l).length = true := Nat.ble_eq_true_of_le h2
  simp only [vat, cstR, h0, hz, h3]
  exact congrArg (fun x => some (VV.ag x)) h1
theorem run_part1 {P : Program} {t : TypeId} {cs : Array Value} {off : Nat} {v : Value} (ht : vagg P t = some false) (hc : cs[off]? = some v) (w : World) : (part t cs off).run P w = .ok v w := by
  simp [part, run_isAgg ht, hc]
theorem eqI_run {P : Program} {t : TypeId} {k : IntKind} (hu : P.underlying t = some (.int k)) (a b : Int) (d : Nat) (w : World) : (Op.equalIn (d + 1) t (.int k a) (.int k b)).run P w = .ok (a == b) w := by
  simp [Op.equalIn, run_underlying hu]
theorem eqStr_run {P : Program} {t : TypeId} (hu : P.underlying t = some .string) (a b : ByteArray) (d : Nat) (w : World) : (Op.equalIn (d + 1) t (.string a) (.string b)).run P w = .ok (a == b) w := by
  simp [Op.equalIn, run_underlying hu]
theorem bytes_eqD (a b : List UInt8) : ((⟨a.toArray⟩ : ByteArray) == ⟨b.toArray⟩) = decide (a = b) := by
  have : ((⟨a.toArray⟩ : ByteArray) == ⟨b.toArray⟩) = (a.toArray == b.toArray) := rfl
  rw [this, Bool.eq_iff_iff]; simp
theorem eqV_run (f g : Cst) (w : World) : (Op.equal 54 (.agg #[.int .i64 f.kind, .int .i64 f.num, .string ⟨f.text.toArray⟩]) (.agg #[.int .i64 g.kind, .int .i64 g.num, .string ⟨g.text.toArray⟩])).run Tryz.prog w = .ok (decide (f = g)) w := by
  refine (fun d => ?_ : ∀ d : Nat, (Op.equalIn (d + 2) 54 _ _).run Tryz.prog w = .ok _ w) 9998
  have tk : vagg Tryz.prog 52 = some false := by kernel_rfl
  have ti : vagg Tryz.prog 3 = some false := by kernel_rfl
  have h1 := fun w => run_part1 tk (cs := #[.int .i64 f.kind, .int .i64 f.num, .string ⟨f.text.toArray⟩]) (off := 0) rfl w
  have h2 := fun w => run_part1 tk (cs := #[.int .i64 g.kind, .int .i64 g.num, .string ⟨g.text.toArray⟩]) (off := 0) rfl w
  have h3 := fun w => run_part1 ti (cs := #[.int .i64 f.kind, .int .i64 f.num, .string ⟨f.text.toArray⟩]) (off := 1) rfl w
  have h4 := fun w => run_part1 ti (cs := #[.int .i64 g.kind, .int .i64 g.num, .string ⟨g.text.toArray⟩]) (off := 1) rfl w
  have h5 := fun w => run_part1 vagg_str (cs := #[.int .i64 f.kind, .int .i64 f.num, .string ⟨f.text.toArray⟩]) (off := 2) rfl w
  have h6 := fun w => run_part1 vagg_str (cs := #[.int .i64 g.kind, .int .i64 g.num, .string ⟨g.text.toArray⟩]) (off := 2) rfl w
  have e1 := fun w => eqI_run (P := Tryz.prog) (t := 52) (k := .i64) Tryz.underlying52 f.kind g.kind d w
  have e2 := fun w => eqI_run (P := Tryz.prog) (t := 3) (k := .i64) Tryz.underlying3 f.num g.num d w
  have e3 := fun w => eqStr_run (P := Tryz.prog) (t := 9) Tryz.underlying9 ⟨f.text.toArray⟩ ⟨g.text.toArray⟩ d w
  rw [Op.equalIn]
  simp [run_underlying Tryz.underlying54, h1, h2, h3, h4, h5, h6, e1, e2, e3]
  rw [bytes_eqD]
  obtain ⟨f1, f2, f3⟩ := f
  obtain ⟨g1, g2, g3⟩ := g
  by_cases c1 : f1 = g1 <;> by_cases c2 : f2 = g2 <;> by_cases c3 : f3 = g3 <;> simp [c1, c2, c3] <;> (intros; omega)
theorem eqV_op {o : Oper} {ts : List VV} {H : Heap} {K : VV → Heap → Prop} {x y : Operand} {p : TypeId} {f g : Cst} (ho : o.op = .binOp .eql 54 x y p) (hx : veval ts x = .ag [iV f.kind, iV f.num, strV f.text]) (hy : veval ts y = .ag [iV g.kind, iV g.num, strV g.text]) (k : K (.sc (.bool (decide (f = g)))) H) : GOp' Tryz.prog o ts H K :=
  GOp'.eqAg ho (.inl rfl) hx hy rfl rfl (by kernel_rfl) (fun w => eqV_run f g w) k
theorem idxV_call (l : List Cst) (hl : l.length ≤ 1000000) (x : Cst) (H : Heap) : VCall Tryz.prog 114 [.ro l.length (cstR l), .ag [iV x.kind, iV x.num, strV x.text]] H (fun v K => v = iV (idxF x 0 l) ∧ K = H) := by
  refine VCall.pure (by intro v hv; simp only [List.mem_cons, List.not_mem_nil, or_false] at hv; rcases hv with rfl | rfl; exact nameless_ro (cstR_nl l); exact nameless_ag (cstC_nl x)) (nameless_sc _) ?_
  generalize hR : idxF x 0 l = R
  refine VCall.go Tryz.func114 rfl ?_
  have hb : True := trivial
  (repeat' (first|with_reducible refine And.intro ?_ ?_|(with_reducible intro hc;(try simp only [zz] at hc);try exact ct)|exact Is.mk rfl rfl|((conv => whnf);first|with_reducible refine And.intro ?_ ?_|with_reducible intro hx|exact Is.mk rfl rfl|(with_reducible first|apply Val.via|apply ValH.via)|refine sp ?_|refine vx (by (first|exact hb|exact vat_of vagg_str hb (mul1 rfl rfl)|exact vat_cst hb rfl|exact vat_of rfl rfl rfl|rfl)) ?_|refine GWP.drawY mixed _ (by kernel_rfl) (by rfl) ?_|fail|refine sq ?_)))
  (all_goals (first|omega|contradiction|skip))
  (refine GWP'.mk (GWP.loopB [] (fun (i : Nat) => i ≤ l.length ∧ idxF x i (l.drop i) = R) (fun i => [(8, iV i)]) (fun _ => []) 1 (fun i => l.length - i) 0 ⟨Nat.zero_le _, hR⟩ ?_); (conv => whnf); refine And.intro ?_ ?_)
  · focus (refine ka [] ?_ ?_;all_goals (repeat' (first|exact rz|refine And.intro ?_ ?_|refine Exists.intro _ (And.intro rfl ?_)|refine ro ?_|refine RenL.cons ?_ ?_|fail|exact rv)))
  rintro i ⟨g1, g2⟩
  simp only at g1 g2 ⊢
  by_cases hil : i < l.length
  · obtain ⟨b, hb⟩ := list_at hil
    rw [drop_atF hb, idxF] at g2
    by_cases hcb : x = b
    · rw [if_pos hcb] at g2
      subst g2 hcb
      (repeat' (first|with_reducible refine And.intro ?_ ?_|(with_reducible intro hc;(try simp only [zz] at hc);try exact ct)|exact Is.mk rfl rfl|((conv => whnf);first|with_reducible refine And.intro ?_ ?_|with_reducible intro hx|exact Is.mk rfl rfl|(with_reducible first|apply Val.via|apply ValH.via)|refine sp ?_|refine vx (by (first|exact hb|exact vat_of vagg_str hb (mul1 rfl rfl)|exact vat_cst hb rfl|exact vat_of rfl rfl rfl|rfl)) ?_|refine GWP.drawY mixed _ (by kernel_rfl) (by rfl) ?_|(refine stopO (eqV_op rfl rfl rfl ?_))|refine sq ?_)))
      (all_goals (first|omega|contradiction|skip))
      all_goals (first|(exact absurd rfl (by simpa using hc))|exact Done'.mk rfl)
    · rw [if_neg hcb] at g2
      (repeat' (first|with_reducible refine And.intro ?_ ?_|(with_reducible intro hc;(try simp only [zz] at hc);try exact ct)|exact Is.mk rfl rfl|((conv => whnf);first|with_reducible refine And.intro ?_ ?_|with_reducible intro hx|exact Is.mk rfl rfl|(with_reducible first|apply Val.via|apply ValH.via)|refine sp ?_|refine vx (by (first|exact hb|exact vat_of vagg_str hb (mul1 rfl rfl)|exact vat_cst hb rfl|exact vat_of rfl rfl rfl|rfl)) ?_|refine GWP.drawY mixed _ (by kernel_rfl) (by rfl) ?_|(refine stopO (eqV_op rfl rfl rfl ?_))|refine sq ?_)))
      (all_goals (first|omega|contradiction|skip))
      all_goals (first|(exact absurd (by simpa using hc) hcb)|skip)
      focus (refine Done'.mk ⟨i + 1,⟨by omega,g2⟩,?_,ka [] ?_ ?_⟩;(first|omega|(simp only;omega));all_goals (repeat' (first|exact rz|refine And.intro ?_ ?_|refine Exists.intro _ (And.intro rfl ?_)|refine ro ?_|refine RenL.cons ?_ ?_|exact RenV.eq (scI_eq (by omega)) (nameless_sc _)|exact rv)))
  · obtain rfl : i = l.length := by omega
    rw [List.drop_length, idxF] at g2
    subst g2
    (repeat' (first|with_reducible refine And.intro ?_ ?_|(with_reducible intro hc;(try simp only [zz] at hc);try exact ct)|exact Is.mk rfl rfl|((conv => whnf);first|with_reducible refine And.intro ?_ ?_|with_reducible intro hx|exact Is.mk rfl rfl|(with_reducible first|apply Val.via|apply ValH.via)|refine sp ?_|refine vx (by (first|exact hb|exact vat_of vagg_str hb (mul1 rfl rfl)|exact vat_cst hb rfl|exact vat_of rfl rfl rfl|rfl)) ?_|refine GWP.drawY mixed _ (by kernel_rfl) (by rfl) ?_|fail|refine sq ?_)))
    (all_goals (first|omega|contradiction|skip))
    all_goals exact Done'.mk rfl
end Go.Proofs.YtpbiblhkcomekaaGreat

