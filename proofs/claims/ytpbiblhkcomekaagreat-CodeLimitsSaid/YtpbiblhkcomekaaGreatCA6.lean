import Derived.Test.YtpbiblhkcomekaaGreatCA4
import Derived.Test.YtpbiblhkcomekaaGreatCA5
import Derived.Test.YtpbiblhkcomekaaGreatCE5
import Derived.Test.YtpbiblhkcomekaaGreatCH6
/- The maker's methods at any names at all; what Compile makes, in plain words. -/
namespace Go.Proofs.YtpbiblhkcomekaaGreat
open Go Go.RowKit
set_option linter.unusedSimpArgs false
set_option linter.unusedVariables false
set_option maxRecDepth 100000
def mkW (p m q a b c : Nat) (s : MkS) (x : VV) : List (Nat × VObj) :=
  [(p, .cells true [.gs a s.names.length 1, .gs b s.consts.length 3, .mp q, x]), (m, .cells true [.ptr p 0, .gs c s.l.length 3, iV s.fixed, iV s.depth, iV s.most]), (a, .opt (nmR s.names)), (b, .opt (cstR s.consts)), (c, .opt (opsR s.l))]
structure Nm6 (l : List Nat) (n : Nat) : Prop where
  h : l.Nodup ∧ ∀ x ∈ l, x < n
theorem mkW_m {R : List (Nat × Nat)} {p p' c c' n : Nat} {i d e : Int} (hc : (c, c') ∈ R) (h0 : (p, p') ∈ R) : RenO R 0 (.cells true [.ptr p 0, .gs c n 3, iV i, iV d, iV e]) (.cells true [.ptr p' 0, .gs c' n 3, iV i, iV d, iV e]) := .cells (.cons (.ptr h0) (.cons (.gs hc) (.cons (.of (nameless_sc _)) (.cons (.of (nameless_sc _)) (.cons (.of (nameless_sc _)) .nil)))))
theorem mkW_p {R : List (Nat × Nat)} {q q' a b a' b' n k : Nat} {x : VV} (hx : Nameless x) (ha : (a, a') ∈ R) (hb : (b, b') ∈ R) (h2 : (q, q') ∈ R) : RenO R 0 (.cells true [.gs a n 1, .gs b k 3, .mp q, x]) (.cells true [.gs a' n 1, .gs b' k 3, .mp q', x]) := .cells (.cons (.gs ha) (.cons (.gs hb) (.cons (.mp h2) (.cons (.of hx) .nil))))
theorem MkC.atG {f : FuncId} {args : List VV} {s s' : MkS} {u x : VV} (hx : Nameless x) (hu : Nameless u) (ha : ∀ v ∈ args, Nameless v) (h : MkC f (.ptr 1 0 :: args) s u s') (H : Heap) (p m q a b c n : Nat)
    (g0 : H.get p = some (.cells true [.gs a s.names.length 1, .gs b s.consts.length 3, .mp q, x])) (g1 : H.get m = some (.cells true [.ptr p 0, .gs c s.l.length 3, iV s.fixed, iV s.depth, iV s.most])) (g3 : H.get a = some (.opt (nmR s.names))) (g4 : H.get b = some (.opt (cstR s.consts))) (g5 : H.get c = some (.opt (opsR s.l))) (hn : H.next = n) (hb : Nm6 [p, m, q, a, b, c] n) :
    VCall Tryz.prog f (.ptr m 0 :: args) H (fun v K => v = u ∧ K = ⟨mkW p m q n (n + 1) (n + 2) s' x ++ restO [p, m, a, b, c] H.objs, n + 3⟩) := by
  refine VCall.live fun hlive => ?_
  obtain ⟨objs, nx⟩ := H
  simp only at hn
  subst hn
  obtain ⟨hd, hl⟩ := hb.h
  simp only [List.nodup_cons, List.mem_cons, List.not_mem_nil, or_false, not_false_eq_true, List.nodup_nil, and_true, not_or] at hd
  simp only [List.mem_cons, List.not_mem_nil, or_false, forall_eq_or_imp, forall_eq] at hl
  have g : ∀ i : Nat, memN i [p, m, a, b, c] = true → (⟨keepO [p, m, a, b, c] objs, nx⟩ : Heap).get i = (⟨objs, nx⟩ : Heap).get i := fun i hi => by
    show hget (keepO [p, m, a, b, c] objs) i = hget objs i
    rw [hget_keepO, hi]
  refine VCall.at (n1 := 6) (O1 := mkO 3 4 5 s x) [p, m, a, b, c] [(p, 0), (m, 1), (q, 2), (a, 3), (b, 4), (c, 5)] ?_
    ⟨⟨_, (g p (memN_iff.2 (by simp))).trans g0, mkW_p hx (by simp) (by simp) (by simp)⟩, ⟨_, (g m (memN_iff.2 (by simp))).trans g1, mkW_m (by simp) (by simp)⟩, ⟨_, (g a (memN_iff.2 (by simp))).trans g3, .opt (RenL.of (nmR_nl _))⟩, ⟨_, (g b (memN_iff.2 (by simp))).trans g4, .opt (RenL.of (cstR_nl _))⟩, ⟨_, (g c (memN_iff.2 (by simp))).trans g5, .opt (RenL.of (opsR_nl _))⟩, trivial⟩
    (.cons (.ptr (by simp)) (RenL.of ha)) (h x hx) ?_
  · show (wfR 0 6 [(p, 0), (m, 1), (q, 2), (a, 3), (b, 4), (c, 5)] && nodupB [p, m, a, b, c] && _) = true
    rw [nodupB_mk (by simp; omega)]
    rfl
  rintro v K ⟨rfl, rfl⟩
  have e0 : backR [(p, 0), (m, 1), (q, 2), (a, 3), (b, 4), (c, 5)] 6 nx (9 - 6) = [(8, nx + 2), (7, nx + 1), (6, nx), (0, p), (1, m), (2, q), (3, a), (4, b), (5, c)] := rfl
  have hw : wfR 0 (nx + 3) [(8, nx + 2), (7, nx + 1), (6, nx), (0, p), (1, m), (2, q), (3, a), (4, b), (5, c)] = true := by
    refine wfR_mk ?_ ?_
    · simp only [List.mem_cons, List.not_mem_nil, or_false, forall_eq_or_imp, forall_eq]
      omega
    · simp only [List.map_cons, List.map_nil, List.nodup_cons, List.mem_cons, List.not_mem_nil, or_false, not_false_eq_true, List.nodup_nil, and_true, not_or]
      omega
  have sr : ∀ i j : Nat, (i, j) ∈ [(8, nx + 2), (7, nx + 1), (6, nx), (0, p), (1, m), (2, q), (3, a), (4, b), (5, c)] → srcN [(8, nx + 2), (7, nx + 1), (6, nx), (0, p), (1, m), (2, q), (3, a), (4, b), (5, c)] j = some i := fun i j hj => (wfR_src hw (i, j) hj).2.2
  have t0 := sr 0 p (by simp)
  have t1 := sr 1 m (by simp)
  have t3 := sr 6 nx (by simp)
  have t4 := sr 7 (nx + 1) (by simp)
  have t5 := sr 8 (nx + 2) (by simp)
  refine ⟨v, mkW p m q nx (nx + 1) (nx + 2) s' x, ⟨?_, .of hu, ?_⟩, ?_, rfl, rfl⟩
  · show (wfR 0 (nx + 3) (backR _ 6 nx (9 - 6)) && nodupB (ksOf (backR _ 6 nx (9 - 6)) 0 (mkW p m q nx (nx + 1) (nx + 2) s' x)) && (mkW p m q nx (nx + 1) (nx + 2) s' x).all (fun p => (srcN (backR _ 6 nx (9 - 6)) p.1).isSome) && _) = true
    rw [e0, hw]
    simp only [mkW, ksOf, srcOf0, t0, t1, t3, t4, t5, List.all_cons, List.all_nil]
    rfl
  · show RenG (backR _ 6 nx (9 - 6)) 0 ⟨mkO 6 7 8 s' x, 9⟩ _
    rw [e0]
    refine ⟨?_, ?_, ?_, ?_, ?_, trivial⟩
    · rw [srcOf0, t0]; exact ⟨_, rfl, mkW_p hx (by simp) (by simp) (by simp)⟩
    · rw [srcOf0, t1]; exact ⟨_, rfl, mkW_m (by simp) (by simp)⟩
    · rw [srcOf0, t3]; exact ⟨_, rfl, .opt (RenL.of (nmR_nl _))⟩
    · rw [srcOf0, t4]; exact ⟨_, rfl, .opt (RenL.of (cstR_nl _))⟩
    · rw [srcOf0, t5]; exact ⟨_, rfl, .opt (RenL.of (opsR_nl _))⟩
  · have hl : ∀ i y, hget objs i = some y → i < nx := hlive
    have m0 := memB_restO (D := [p, m, a, b, c]) (b := p) (memN_iff.2 (by simp)) objs
    have m1 := memB_restO (D := [p, m, a, b, c]) (b := m) (memN_iff.2 (by simp)) objs
    have m3 := memB_live (D := [p, m, a, b, c]) hl (show nx ≤ nx by omega)
    have m4 := memB_live (D := [p, m, a, b, c]) hl (show nx ≤ nx + 1 by omega)
    have m5 := memB_live (D := [p, m, a, b, c]) hl (show nx ≤ nx + 2 by omega)
    simp only [mkW, List.all_cons, List.all_nil, m0, m1, m3, m4, m5]
    rfl
/-- The same where the maker has no instruction yet. -/
theorem MkC.atG0 {f : FuncId} {args : List VV} {s s' : MkS} {u x : VV} (hs : s.l = []) (hx : Nameless x) (hu : Nameless u) (ha : ∀ v ∈ args, Nameless v) (h : MkC f (.ptr 1 0 :: args) s u s') (H : Heap) (p m q a b n : Nat)
    (g0 : H.get p = some (.cells true [.gs a s.names.length 1, .gs b s.consts.length 3, .mp q, x])) (g1 : H.get m = some (.cells true [.ptr p 0, .sc (.slice none 0 0), iV s.fixed, iV s.depth, iV s.most])) (g3 : H.get a = some (.opt (nmR s.names))) (g4 : H.get b = some (.opt (cstR s.consts))) (hn : H.next = n) (hb : Nm6 [p, m, q, a, b] n) :
    VCall Tryz.prog f (.ptr m 0 :: args) H (fun v K => v = u ∧ K = ⟨mkW p m q n (n + 1) (n + 2) s' x ++ restO [p, m, a, b] H.objs, n + 3⟩) := by
  refine VCall.live fun hlive => ?_
  obtain ⟨objs, nx⟩ := H
  simp only at hn
  subst hn
  obtain ⟨hd, hl⟩ := hb.h
  simp only [List.nodup_cons, List.mem_cons, List.not_mem_nil, or_false, not_false_eq_true, List.nodup_nil, and_true, not_or] at hd
  simp only [List.mem_cons, List.not_mem_nil, or_false, forall_eq_or_imp, forall_eq] at hl
  have g : ∀ i : Nat, memN i [p, m, a, b] = true → (⟨keepO [p, m, a, b] objs, nx⟩ : Heap).get i = (⟨objs, nx⟩ : Heap).get i := fun i hi => by
    show hget (keepO [p, m, a, b] objs) i = hget objs i
    rw [hget_keepO, hi]
  have e5 : VObj.opt (opsR s.l) = .opt [] := by rw [hs]; rfl
  have e6 : s.l.length = 0 := by rw [hs]; rfl
  refine VCall.at (n1 := 6) (O1 := mkO 3 4 5 s x) [p, m, a, b] [(p, 0), (m, 1), (q, 2), (a, 3), (b, 4)] ?_
    ⟨⟨_, (g p (memN_iff.2 (by simp))).trans g0, mkW_p hx (by simp) (by simp) (by simp)⟩, ⟨_, (g m (memN_iff.2 (by simp))).trans g1, .cells (.cons (.ptr (by simp)) (.cons (by rw [e6]; exact .gsN) (.cons (.of (nameless_sc _)) (.cons (.of (nameless_sc _)) (.cons (.of (nameless_sc _)) .nil)))))⟩, ⟨_, (g a (memN_iff.2 (by simp))).trans g3, .opt (RenL.of (nmR_nl _))⟩, ⟨_, (g b (memN_iff.2 (by simp))).trans g4, .opt (RenL.of (cstR_nl _))⟩, e5, trivial⟩
    (.cons (.ptr (by simp)) (RenL.of ha)) (h x hx) ?_
  · show (wfR 0 6 [(p, 0), (m, 1), (q, 2), (a, 3), (b, 4)] && nodupB [p, m, a, b] && _) = true
    rw [nodupB_mk (by simp; omega)]
    rfl
  rintro v K ⟨rfl, rfl⟩
  have e0 : backR [(p, 0), (m, 1), (q, 2), (a, 3), (b, 4)] 6 nx (9 - 6) = [(8, nx + 2), (7, nx + 1), (6, nx), (0, p), (1, m), (2, q), (3, a), (4, b)] := rfl
  have hw : wfR 0 (nx + 3) [(8, nx + 2), (7, nx + 1), (6, nx), (0, p), (1, m), (2, q), (3, a), (4, b)] = true := by
    refine wfR_mk ?_ ?_
    · simp only [List.mem_cons, List.not_mem_nil, or_false, forall_eq_or_imp, forall_eq]
      omega
    · simp only [List.map_cons, List.map_nil, List.nodup_cons, List.mem_cons, List.not_mem_nil, or_false, not_false_eq_true, List.nodup_nil, and_true, not_or]
      omega
  have sr : ∀ i j : Nat, (i, j) ∈ [(8, nx + 2), (7, nx + 1), (6, nx), (0, p), (1, m), (2, q), (3, a), (4, b)] → srcN [(8, nx + 2), (7, nx + 1), (6, nx), (0, p), (1, m), (2, q), (3, a), (4, b)] j = some i := fun i j hj => (wfR_src hw (i, j) hj).2.2
  have t0 := sr 0 p (by simp)
  have t1 := sr 1 m (by simp)
  have t3 := sr 6 nx (by simp)
  have t4 := sr 7 (nx + 1) (by simp)
  have t5 := sr 8 (nx + 2) (by simp)
  refine ⟨v, mkW p m q nx (nx + 1) (nx + 2) s' x, ⟨?_, .of hu, ?_⟩, ?_, rfl, rfl⟩
  · show (wfR 0 (nx + 3) (backR _ 6 nx (9 - 6)) && nodupB (ksOf (backR _ 6 nx (9 - 6)) 0 (mkW p m q nx (nx + 1) (nx + 2) s' x)) && (mkW p m q nx (nx + 1) (nx + 2) s' x).all (fun p => (srcN (backR _ 6 nx (9 - 6)) p.1).isSome) && _) = true
    rw [e0, hw]
    simp only [mkW, ksOf, srcOf0, t0, t1, t3, t4, t5, List.all_cons, List.all_nil]
    rfl
  · show RenG (backR _ 6 nx (9 - 6)) 0 ⟨mkO 6 7 8 s' x, 9⟩ _
    rw [e0]
    refine ⟨?_, ?_, ?_, ?_, ?_, trivial⟩
    · rw [srcOf0, t0]; exact ⟨_, rfl, mkW_p hx (by simp) (by simp) (by simp)⟩
    · rw [srcOf0, t1]; exact ⟨_, rfl, mkW_m (by simp) (by simp)⟩
    · rw [srcOf0, t3]; exact ⟨_, rfl, .opt (RenL.of (nmR_nl _))⟩
    · rw [srcOf0, t4]; exact ⟨_, rfl, .opt (RenL.of (cstR_nl _))⟩
    · rw [srcOf0, t5]; exact ⟨_, rfl, .opt (RenL.of (opsR_nl _))⟩
  · have hl : ∀ i y, hget objs i = some y → i < nx := hlive
    have m0 := memB_restO (D := [p, m, a, b]) (b := p) (memN_iff.2 (by simp)) objs
    have m1 := memB_restO (D := [p, m, a, b]) (b := m) (memN_iff.2 (by simp)) objs
    have m3 := memB_live (D := [p, m, a, b]) hl (show nx ≤ nx by omega)
    have m4 := memB_live (D := [p, m, a, b]) hl (show nx ≤ nx + 1 by omega)
    have m5 := memB_live (D := [p, m, a, b]) hl (show nx ≤ nx + 2 by omega)
    simp only [mkW, List.all_cons, List.all_nil, m0, m1, m3, m4, m5]
    rfl
/-- A handler's parameters: their variables, all variables. -/
def parL : List Nd → List (List UInt8) → List Nat → List Nat × List (List UInt8)
  | [], ns, out => (out, ns)
  | .mk _ tx _ _ :: r, ns, out => parL r (placeL ns tx).2 (out ++ [(placeL ns tx).1])
/-- A handler's maker, done. -/
def handS (ps : List Nd) (b : Nd) (ns : List (List UInt8)) (cs : List Cst) : MkS := (putM 10 0 [] 0 (stmtM b true ⟨(parL ps ns []).2, cs, [], 0, 0, 0⟩)).2
/-- What Compile makes of handlers: what is wrong, or variables, constants, handlers. -/
def compL : List Nd → List (List UInt8) → List Cst → Bool → List Hnd → Nat ⊕ (List (List UInt8) × List Cst × List Hnd)
  | [], ns, cs, deep, out => if deep then .inl 9 else .inr (ns, cs, out)
  | .mk _ tx _ ks :: r, ns, cs, deep, out =>
    let m := handS ks.dropLast (ks.getLastD nd0) ns cs
    if 8192 < m.l.length then .inl 3 else compL r m.names m.consts (deep || decide (128 < m.most)) (out ++ [⟨tx, (parL ks.dropLast ns []).1, m.l⟩])
/-- A program. -/
structure Pgm where
  names : List (List UInt8)
  consts : List Cst
  hs : List Hnd
  calls : List (List UInt8)
def compM (n : Nd) : Nat ⊕ Pgm :=
  let c := collAll (walkN 0 n) ⟨[], [], []⟩
  match n with
  | .mk _ _ _ ks => if 32 < c.names.length then .inl 6 else match compL ks c.names c.consts false [] with
    | .inl e => .inl e
    | .inr (ns, cs, hs) => .inr ⟨ns, cs, hs, c.calls⟩
end Go.Proofs.YtpbiblhkcomekaaGreat

/- code.Compile, walked. -/
namespace Go.Proofs.YtpbiblhkcomekaaGreat
open Go Go.RowKit
set_option linter.unusedSimpArgs false
set_option linter.unusedVariables false
set_option maxRecDepth 100000
set_option maxHeartbeats 8000000
theorem sty_P : SlTy Tryz.prog 35 1 8 := ⟨⟨_, _, _, rfl, rfl, rfl, rfl, rfl, rfl⟩⟩
def ivR (l : List Nat) : List VV := l.map fun (i : Nat) => iV i
theorem ivR_nl (l : List Nat) : ∀ v ∈ ivR l, Nameless v := nameless_map (fun _ => nameless_sc _) l
theorem ivR_len (l : List Nat) : (ivR l).length = l.length * 1 := by unfold ivR; rw [List.length_map, Nat.mul_one]
theorem ivR_snoc (l : List Nat) (i : Nat) : ivR (l ++ [i]) = ivR l ++ [iV i] := by unfold ivR; simp
/-- A handler as a map holds it. -/
def hV (h : Hnd) : VV := .ag [.ro h.params.length (ivR h.params), .ro h.code.length (opsR h.code)]
theorem hV_nl (h : Hnd) : Nameless (hV h) := nameless_ag (fun v hv => by
  simp only [List.mem_cons, List.not_mem_nil, or_false] at hv
  rcases hv with rfl | rfl
  · exact nameless_ro (ivR_nl _)
  · exact nameless_ro (opsR_nl _))
theorem vat_rowsE {vs : List VV} {l : List Nd} {i o op nm : Nat} {tx : List UInt8} {ks : List Nd} (he : vs = rowsN l) (h : l[i]? = some (.mk op tx nm ks)) (ho : o = i * 4) : vat Tryz.prog 63 vs o = some (.ag [iV op, strV tx, iV nm, .ro ks.length (rowsN ks)]) := by
  subst he
  exact vat_rowsG h ho
theorem idxk {m n : Nat} (h : m = n + 1) : ((m : Int) - 1).toNat * 4 = n * 4 := by omega
theorem rowsN_take (xs : List Nd) (b : Nd) : ((rowsN (xs ++ [b])).drop (0 * 4)).take (((((xs ++ [b]).length : Int) - 1).toNat - 0) * 4) = rowsN xs := by
  have h : ((((xs ++ [b]).length : Int) - 1).toNat - 0) = xs.length := by simp
  rw [h, Nat.zero_mul, List.drop_zero, rowsN_snoc, List.take_append_of_le_length (by rw [rowsN_len]; exact Nat.le_refl _), List.take_of_length_le (by rw [rowsN_len]; exact Nat.le_refl _)]
theorem coll_at (n : Nd) (hN : cntN n ≤ 40000) (H : Heap) (g : H.get 2 = some (.cells true [.sc (.slice none 0 0), .sc (.slice none 0 0), .mp 1, .sc (.slice none 0 0)])) (hn : H.next = 3) :
    VCall Tryz.prog 42 [.ptr 2 0, nV n] H (fun v K => v = .tp [] ∧ K = ⟨coO 2 1 3 4 (collAll (walkN 0 n) ⟨[], [], []⟩).names (collAll (walkN 0 n) ⟨[], [], []⟩).consts (roS (ofL ltS (collAll (walkN 0 n) ⟨[], [], []⟩).calls)) ++ restO [2] H.objs, 5⟩) := by
  refine VCall.live fun hlive => ?_
  obtain ⟨objs, nx⟩ := H
  simp only at hn
  subst hn
  have h := coll_call n hN
  generalize collAll (walkN 0 n) ⟨[], [], []⟩ = σ at *
  have hx : Nameless (roS (ofL ltS σ.calls)) := nameless_ro (nameless_map nameless_strV _)
  generalize roS (ofL ltS σ.calls) = x at *
  have g2 : (⟨keepO [2] objs, 3⟩ : Heap).get 2 = (⟨objs, 3⟩ : Heap).get 2 := by
    show hget (keepO [2] objs) 2 = hget objs 2
    rw [hget_keepO]
    rfl
  refine VCall.at (n1 := 2) (O1 := [(0, .cells true [.sc (.slice none 0 0), .sc (.slice none 0 0), .mp 1, .sc (.slice none 0 0)])]) [2] [(2, 0), (1, 1)] rfl
    ⟨⟨_, g2.trans g, .cells (.cons (.of (nameless_sc _)) (.cons (.of (nameless_sc _)) (.cons (.mp (by decide)) (.cons (.of (nameless_sc _)) .nil))))⟩, trivial⟩
    (.cons (.ptr (by decide)) (.cons (.of (nameless_nV n)) .nil)) h ?_
  rintro v K ⟨rfl, rfl⟩
  have e0 : backR [(2, 0), (1, 1)] 2 3 (4 - 2) = [(3, 4), (2, 3), (0, 2), (1, 1)] := rfl
  refine ⟨.tp [], coO 2 1 3 4 σ.names σ.consts x, ⟨rfl, .of (nameless_tp (by simp)), ?_⟩, ?_, rfl, rfl⟩
  · show RenG (backR _ 2 3 (4 - 2)) 0 ⟨coO 0 1 2 3 σ.names σ.consts x, 4⟩ _
    rw [e0]
    exact ⟨⟨_, rfl, coO_p hx (by decide) (by decide) (by decide)⟩, ⟨_, rfl, .opt (RenL.of (nmR_nl _))⟩, ⟨_, rfl, .opt (RenL.of (cstR_nl _))⟩, trivial⟩
  · have hl : ∀ b x, hget objs b = some x → b < 3 := hlive
    simp only [coO, List.all_cons, List.all_nil, memB_restO (D := [2]) (b := 2) rfl, memB_live (D := [2]) hl (show 3 ≤ 3 by omega), memB_live (D := [2]) hl (show 3 ≤ 4 by omega)]
    rfl
theorem ag2a_view {H : Heap} {c : VV} {nm n z : Nat} {vs : List VV} (hg : H.get nm = some (.opt vs)) (hl : vs.length = n * z) : ∀ B M Z ρ w y, Rel B M Z ρ H w → VRel w Z ρ (.ag [.gs nm n z, c]) y → VRel w Z ρ (.ag [.ro n vs, c]) y ∨ ∃ k N, ρ nm = some (k, N) ∧ VRel w (fun j => Z j ∨ j = k) ρ (.ag [.ro n vs, c]) y := by
  intro B M Z ρ w y hr hv
  cases hv with
  | @ag _ cs h1 r1 =>
    obtain ⟨cs⟩ := cs
    match cs, h1 with
    | [p, q], _ =>
      have h0 := r1 0 _ _ rfl rfl
      have h2 := r1 1 _ _ rfl rfl
      rcases gs_view hg hl B M Z ρ w p hr h0 with h | ⟨k, N, hk, h⟩
      · exact .inl (VRel.ag' (Pw.cons h (Pw.cons h2 Pw.nil)))
      · exact .inr ⟨k, N, hk, VRel.ag' (Pw.cons h (Pw.cons (h2.zmono fun _ h => .inl h) Pw.nil))⟩
theorem ag2b_view {H : Heap} {c : VV} {nm n z : Nat} {vs : List VV} (hg : H.get nm = some (.opt vs)) (hl : vs.length = n * z) : ∀ B M Z ρ w y, Rel B M Z ρ H w → VRel w Z ρ (.ag [c, .gs nm n z]) y → VRel w Z ρ (.ag [c, .ro n vs]) y ∨ ∃ k N, ρ nm = some (k, N) ∧ VRel w (fun j => Z j ∨ j = k) ρ (.ag [c, .ro n vs]) y := by
  intro B M Z ρ w y hr hv
  cases hv with
  | @ag _ cs h1 r1 =>
    obtain ⟨cs⟩ := cs
    match cs, h1 with
    | [p, q], _ =>
      have h0 := r1 0 _ _ rfl rfl
      have h2 := r1 1 _ _ rfl rfl
      rcases gs_view hg hl B M Z ρ w q hr h2 with h | ⟨k, N, hk, h⟩
      · exact .inl (VRel.ag' (Pw.cons h0 (Pw.cons h Pw.nil)))
      · exact .inr ⟨k, N, hk, VRel.ag' (Pw.cons (h0.zmono fun _ h => .inl h) (Pw.cons h Pw.nil))⟩
theorem GOp'.frz2a {o : Oper} {ts : List VV} {H : Heap} {K : VV → Heap → Prop} {c : VV} {nm n z : Nat} {vs : List VV} (i : Nat) (hi : ts[i]? = some (.ag [.gs nm n z, c])) (hg : H.get nm = some (.opt vs)) (hl : vs.length = n * z) (h : GOp' Tryz.prog o (ts.set i (.ag [.ro n vs, c])) (H.del nm) K) : GOp' Tryz.prog o ts H K := frz_op i hi hg rfl (ag2a_view hg hl) h
theorem GOp'.frz2b {o : Oper} {ts : List VV} {H : Heap} {K : VV → Heap → Prop} {c : VV} {nm n z : Nat} {vs : List VV} (i : Nat) (hi : ts[i]? = some (.ag [c, .gs nm n z])) (hg : H.get nm = some (.opt vs)) (hl : vs.length = n * z) (h : GOp' Tryz.prog o (ts.set i (.ag [c, .ro n vs])) (H.del nm) K) : GOp' Tryz.prog o ts H K := frz_op i hi hg rfl (ag2b_view hg hl) h
theorem mfind_none (tx : List UInt8) : ∀ (seen : List (List UInt8)) (vs : List VV) (i : Nat), vs.length = seen.length → seen.contains tx = false → mfind .string (strK tx) (seen.map strK) vs i = some none
  | [], [], i, _, _ => rfl
  | y :: r, v :: s, i, hl, hn => by
    have hk : keyEq .string (strK tx) (strK y) = some (tx == y) := rfl
    simp only [List.contains_cons, Bool.or_eq_false_iff] at hn
    simp only [List.map_cons, mfind, hk, hn.1]
    exact mfind_none tx r s (i + 1) (by simpa using hl) hn.2
  | [], _ :: _, _, h, _ => by simp at h
  | _ :: _, [], _, h, _ => by simp at h
theorem GOp'.mupdH {o : Oper} {ts : List VV} {H : Heap} {K : VV → Heap → Prop} {seen : List (List UInt8)} {vs : List VV} {tx : List UInt8} {v : VV} {b i j l : Nat} (ho : o.op = .mapUpdate 97 (.tmp i) (.tmp j) (.tmp l)) (h1 : veval ts (.tmp i) = .mp b) (h2 : veval ts (.tmp j) = strV tx) (h3 : veval ts (.tmp l) = v) (hg : H.get b = some (.map (seen.map strK) vs)) (hl : vs.length = seen.length) (hn : seen.contains tx = false) (k : K (.tp []) (H.set b (.map (seen.map strK ++ [strK tx]) (vs ++ [v])))) : GOp' Tryz.prog o ts H K := by
  refine GOp'.via (v := .tp []) (H' := H.set b (.map (seen.map strK ++ [strK tx]) (vs ++ [v]))) ?_ k
  have hm := mfind_none tx seen vs 0 hl hn
  obtain ⟨kt, e, u1, u2⟩ : ∃ kt e, (Tryz.prog).underlying 97 = some (.map kt e) ∧ (Tryz.prog).underlying kt = some .string := ⟨_, _, rfl, rfl⟩
  have hs : strV tx = .sc (strK tx) := rfl
  have hk : isKeyB .string (strK tx) = true := rfl
  simp only [vop, ho, h1, h2, h3, vmapUpd, u1, u2, hs, hk, hg, hm]
/-- Handlers by their shape: parameters, and a block. -/
def HOk (h : Nd) : Prop := ∃ (op nm : Nat) (x : List UInt8) (xs : List Nd) (b : Nd), h = .mk op x nm (xs ++ [b]) ∧ ShS 1 b
theorem parL_len : ∀ (l : List Nd) (ns : List (List UInt8)) (out : List Nat), (parL l ns out).1.length = out.length + l.length ∧ (parL l ns out).2.length ≤ ns.length + l.length ∧ ns.length ≤ (parL l ns out).2.length
  | [], ns, out => by simp [parL]
  | .mk _ tx _ _ :: r, ns, out => by
    obtain ⟨h1, h2, h3⟩ := parL_len r (placeL ns tx).2 (out ++ [(placeL ns tx).1])
    obtain ⟨p1, p2, p3, p4⟩ := placeL_bd ns tx
    rw [parL]
    rw [List.length_append, List.length_singleton] at h1
    simp only [List.length_cons]
    omega
end Go.Proofs.YtpbiblhkcomekaaGreat

