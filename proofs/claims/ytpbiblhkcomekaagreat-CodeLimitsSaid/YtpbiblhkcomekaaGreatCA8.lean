import Derived.Test.YtpbiblhkcomekaaGreatCE5
import Derived.Test.YtpbiblhkcomekaaGreatCA7
import Derived.Test.YtpbiblhkcomekaaGreatCU2
import Derived.Test.YtpbiblhkcomekaaGreatCU1
import Derived.Test.YtpbiblhkcomekaaGreatCA1
/- code.Of, walked: a text's program. -/
namespace Go.Proofs.YtpbiblhkcomekaaGreat
open Go Go.RowKit
set_option linter.unusedSimpArgs false
set_option linter.unusedVariables false
set_option maxRecDepth 100000
set_option maxHeartbeats 8000000
/-- A text's program, or what is wrong. -/
def ofM (t : List UInt8) : Nat ⊕ Pgm := if (parseT t).2 = 0 then compM (parseT t).1 else .inl (parseT t).2
/-- What is handed back, where other blocks are. -/
def resH (r : Nat ⊕ Pgm) (H : Heap) (v : VV) (K : Heap) : Prop := match r with
  | .inl e => v = .tp [.sc (.pointer none), iV e] ∧ K = H
  | .inr g => v = .tp [.ptr H.next 0, iV 0] ∧ K = ⟨pgO H.next (H.next + 1) (H.next + 2) (H.next + 3) g ++ H.objs, H.next + 4⟩
theorem hsV_nl (l : List Hnd) : ∀ v ∈ l.map hV, Nameless v := fun v hv => by obtain ⟨z, _, rfl⟩ := List.mem_map.1 hv; exact hV_nl z
theorem resC_at {f : FuncId} {args : List VV} {r : Nat ⊕ Pgm} (ha : ∀ v ∈ args, Nameless v) (h : VCall Tryz.prog f args ⟨[], 0⟩ (resC r)) (H : Heap) : VCall Tryz.prog f args H (resH r H) := by
  cases r with
  | inl e =>
    refine VCall.pure ha (nameless_tp (by intro v hv; simp only [List.mem_cons, List.not_mem_nil, or_false] at hv; rcases hv with rfl | rfl <;> exact nameless_sc _)) (h.mono ?_)
    rintro v K ⟨rfl, _⟩
    rfl
  | inr g =>
    refine VCall.live fun hlive => ?_
    obtain ⟨objs, nx⟩ := H
    refine VCall.at (n1 := 0) (O1 := []) [] [] rfl trivial (RenL.of ha) h ?_
    rintro v K ⟨rfl, rfl⟩
    have e0 : backR [] 0 nx (4 - 0) = [(3, nx + 3), (2, nx + 2), (1, nx + 1), (0, nx)] := rfl
    have hw : wfR 0 (nx + 4) [(3, nx + 3), (2, nx + 2), (1, nx + 1), (0, nx)] = true := by
      refine wfR_mk ?_ ?_
      · simp only [List.mem_cons, List.not_mem_nil, or_false, forall_eq_or_imp, forall_eq]
        omega
      · simp only [List.map_cons, List.map_nil, List.nodup_cons, List.mem_cons, List.not_mem_nil, or_false, not_false_eq_true, List.nodup_nil, and_true, not_or]
        omega
    have sr : ∀ i j : Nat, (i, j) ∈ [(3, nx + 3), (2, nx + 2), (1, nx + 1), (0, nx)] → srcN [(3, nx + 3), (2, nx + 2), (1, nx + 1), (0, nx)] j = some i := fun i j hj => (wfR_src hw (i, j) hj).2.2
    have t0 := sr 0 nx (by simp)
    have t1 := sr 1 (nx + 1) (by simp)
    have t2 := sr 2 (nx + 2) (by simp)
    have t3 := sr 3 (nx + 3) (by simp)
    have hx : Nameless (roS (ofL ltS g.calls)) := nameless_ro (nameless_map nameless_strV _)
    refine ⟨.tp [.ptr nx 0, iV 0], pgO nx (nx + 1) (nx + 2) (nx + 3) g, ⟨?_, ?_, ?_⟩, ?_, rfl, ?_⟩
    · show (wfR 0 (nx + 4) (backR _ 0 nx (4 - 0)) && nodupB (ksOf (backR _ 0 nx (4 - 0)) 0 (pgO nx (nx + 1) (nx + 2) (nx + 3) g)) && (pgO nx (nx + 1) (nx + 2) (nx + 3) g).all (fun p => (srcN (backR _ 0 nx (4 - 0)) p.1).isSome) && _) = true
      rw [e0, hw]
      simp only [pgO, ksOf, srcOf0, t0, t1, t2, t3, List.all_cons, List.all_nil]
      rfl
    · show RenV (backR _ 0 nx (4 - 0)) 0 _ _
      rw [e0]
      exact .tp (.cons (.ptr (by simp)) (.cons (.of (nameless_sc _)) .nil))
    · show RenG (backR _ 0 nx (4 - 0)) 0 ⟨pgO 0 1 2 3 g, 4⟩ _
      rw [e0]
      refine ⟨?_, ?_, ?_, ?_, trivial⟩
      · rw [srcOf0, t0]; exact ⟨_, rfl, coO_p hx (by simp) (by simp) (by simp)⟩
      · rw [srcOf0, t1]; exact ⟨_, rfl, .map (RenL.of (hsV_nl _))⟩
      · rw [srcOf0, t2]; exact ⟨_, rfl, .opt (RenL.of (nmR_nl _))⟩
      · rw [srcOf0, t3]; exact ⟨_, rfl, .opt (RenL.of (cstR_nl _))⟩
    · have hl : ∀ i y, hget objs i = some y → i < nx := hlive
      have m0 := memB_live (D := []) hl (show nx ≤ nx by omega)
      have m1 := memB_live (D := []) hl (show nx ≤ nx + 1 by omega)
      have m2 := memB_live (D := []) hl (show nx ≤ nx + 2 by omega)
      have m3 := memB_live (D := []) hl (show nx ≤ nx + 3 by omega)
      simp only [pgO, List.all_cons, List.all_nil, m0, m1, m2, m3]
      rfl
    · rw [restO_nil]
      rfl
theorem FitS.sh {i d : Nat} {n : Nd} (h : FitS i d n) : ShS i n := by
  induction h with
  | set h hn => exact .one (.inl rfl)
  | do_ hn => exact .one (.inr rfl)
  | if2 hn hb ih => exact .if2 ih
  | if3 hn hb hc ih1 ih2 => exact .if3 ih1 ih2
  | while_ hn hb ih => exact .while_ ih
  | stop => exact .stop
  | block hd hk ih => exact .block ih
theorem FitO.ok {n : Nd} (h : FitO n) : HOk n := by
  obtain ⟨x, ys, b, rfl, _, _, hb⟩ := h
  exact ⟨_, _, _, _, b, rfl, hb.sh⟩
theorem of0_call (t : List UInt8) (ht : t.length ≤ 1200) : VCall Tryz.prog 8 [roB t] ⟨[], 0⟩ (resC (ofM t)) := by
  have hp := parse_call t (by omega)
  unfold ofM
  by_cases h0 : (parseT t).2 = 0
  · rw [if_pos h0]
    obtain ⟨ks, e1, e2, _, e4⟩ := back_fit ht h0
    have hc := parseT_cnt t
    rw [h0, e1] at hp
    rw [e1] at hc ⊢
    have hcc := resC_at (by intro v hv; rw [List.mem_singleton] at hv; subst hv; exact nameless_nV _) (compile_call 0 0 [] ks (by omega) (fun h hh => (e2 h hh).ok) e4)
    generalize compM (.mk 0 [] 0 ks) = r at *
    rw [nV, cellsN] at hcc hp
    refine VCall.fin ?_
    cases r with
    | inl e =>
      have hcc := fun H => (show VCall _ _ _ H (fun v K => v = .tp [.sc (.pointer none), iV e] ∧ K = H) from hcc H)
      refine VCall.go Tryz.func8 rfl ?_
      (repeat' (first|with_reducible refine And.intro ?_ ?_|(with_reducible intro hc;(try simp only [zz] at hc);try exact ct)|exact Is.mk rfl rfl|((conv => whnf);first|with_reducible refine And.intro ?_ ?_|with_reducible intro hx|exact Is.mk rfl rfl|(with_reducible first|apply Val.via|apply ValH.via)|refine sp ?_|refine vx (by (first|exact vat_nd rfl rfl|exact vat_of rfl rfl rfl|rfl)) ?_|refine GWP.drawY mixed _ (by kernel_rfl) (by rfl) ?_|(first|refine cl (hp _) ?_|refine cl (hcc _) ?_)|refine sq ?_)))
      (all_goals (first|omega|contradiction|skip))
      all_goals exact Done'.mk (resC_err rfl)
    | inr g =>
      have hcc := fun H => (show VCall _ _ _ H (fun v K => v = .tp [.ptr H.next 0, iV 0] ∧ K = ⟨pgO H.next (H.next + 1) (H.next + 2) (H.next + 3) g ++ H.objs, H.next + 4⟩) from hcc H)
      have hx : Nameless (roS (ofL ltS g.calls)) := nameless_ro (nameless_map nameless_strV _)
      refine VCall.go Tryz.func8 rfl ?_
      (repeat' (first|with_reducible refine And.intro ?_ ?_|(with_reducible intro hc;(try simp only [zz] at hc);try exact ct)|exact Is.mk rfl rfl|((conv => whnf);first|with_reducible refine And.intro ?_ ?_|with_reducible intro hx|exact Is.mk rfl rfl|(with_reducible first|apply Val.via|apply ValH.via)|refine sp ?_|refine vx (by (first|exact vat_nd rfl rfl|exact vat_of rfl rfl rfl|rfl)) ?_|refine GWP.drawY mixed _ (by kernel_rfl) (by rfl) ?_|(first|refine cl (hp _) ?_|refine cl (hcc _) ?_)|refine sq ?_)))
      (all_goals (first|omega|contradiction|skip))
      all_goals refine Done'.mk ⟨[(1, 0), (2, 1), (3, 2), (4, 3)], .tp [.ptr 0 0, iV 0], pgO 0 1 2 3 g, 4, rfl, rfl, rfl, .tp (.cons (.ptr (b := 1) (by decide)) (.cons (.of (nameless_sc _)) .nil)), ?_, rfl, rfl⟩
      exact ⟨⟨_, rfl, coO_p (a := 3) (b := 4) (q := 2) hx (by decide) (by decide) (by decide)⟩, ⟨_, rfl, .map (RenL.of (hsV_nl _))⟩, ⟨_, rfl, .opt (RenL.of (nmR_nl _))⟩, ⟨_, rfl, .opt (RenL.of (cstR_nl _))⟩, trivial⟩
  · rw [if_neg h0]
    generalize parseT t = q at *
    obtain ⟨n, e⟩ := q
    obtain ⟨op, tx, nm, ks⟩ := n
    simp only at h0 hp
    rw [nV, cellsN] at hp
    refine VCall.fin ?_
    refine VCall.go Tryz.func8 rfl ?_
    (repeat' (first|with_reducible refine And.intro ?_ ?_|(with_reducible intro hc;(try simp only [zz] at hc);try exact ct)|exact Is.mk rfl rfl|((conv => whnf);first|with_reducible refine And.intro ?_ ?_|with_reducible intro hx|exact Is.mk rfl rfl|(with_reducible first|apply Val.via|apply ValH.via)|refine sp ?_|refine vx (by (first|exact vat_nd rfl rfl|exact vat_of rfl rfl rfl|rfl)) ?_|refine GWP.drawY mixed _ (by kernel_rfl) (by rfl) ?_|refine cl (hp _) ?_|refine sq ?_)))
    (all_goals (first|omega|contradiction|skip))
    all_goals exact Done'.mk (resC_err rfl)
theorem of_call (t : List UInt8) (ht : t.length ≤ 1200) (H : Heap) : VCall Tryz.prog 8 [roB t] H (resH (ofM t) H) := resC_at (by intro v hv; rw [List.mem_singleton] at hv; subst hv; exact nameless_roB t) (of0_call t ht) H
end Go.Proofs.YtpbiblhkcomekaaGreat

/- CodeLimits, in plain words: the text of so many variables and so many arguments; its signs, its tree. -/
namespace Go.Proofs.YtpbiblhkcomekaaGreat
open Go Go.RowKit
set_option linter.unusedSimpArgs false
set_option linter.unusedVariables false
set_option maxRecDepth 20000
def nmL (i : Nat) : List UInt8 := [118, UInt8.ofNat (97 + i / 20), UInt8.ofNat (97 + i % 20)]
def oneN : Nd := .mk 8 [] 1 []
def setN (i : Nat) : Nd := .mk 3 (nmL i) 0 [oneN]
def calN (m : Nat) : Nd := .mk 4 [] 0 [.mk 12 [102] 0 (List.replicate m oneN)]
def blkN (l : List Nat) (m : Nat) : Nd := .mk 2 [] 0 (l.map setN ++ [calN m])
def hanN (l : List Nat) (m : Nat) : Nd := .mk 1 [97] 0 [blkN l m]
def limN (l : List Nat) (m : Nat) : Nd := .mk 0 [] 0 [hanN l m]
def setT (i : Nat) : List UInt8 := nmL i ++ [61, 49, 59]
def argR : Nat → List UInt8
  | 0 => []
  | m + 1 => 44 :: 49 :: argR m
def argT : Nat → List UInt8
  | 0 => []
  | m + 1 => 49 :: argR m
def limT (l : List Nat) (m : Nat) : List UInt8 := [111, 110, 32, 97, 40, 41, 123] ++ ((l.map setT).flatten ++ ([102, 40] ++ (argT m ++ [41, 59, 125])))
theorem argR_snoc : ∀ m, argR m ++ [44, 49] = argR (m + 1)
  | 0 => rfl
  | m + 1 => by
    show 44 :: 49 :: (argR m ++ [44, 49]) = 44 :: 49 :: argR (m + 1)
    rw [argR_snoc m]
theorem argT_snoc (m : Nat) : argT (m + 1) ++ [44, 49] = argT (m + 2) := by
  show 49 :: (argR m ++ [44, 49]) = 49 :: argR (m + 1)
  rw [argR_snoc]
theorem argR_len : ∀ m, (argR m).length = 2 * m
  | 0 => rfl
  | m + 1 => by
    show (argR m).length + 1 + 1 = _
    rw [argR_len m]
    omega
theorem argT_len (m : Nat) : (argT m).length ≤ 2 * m := by
  cases m with
  | zero => simp [argT]
  | succ m =>
    show (argR m).length + 1 ≤ _
    rw [argR_len]
    omega
theorem setT_len (l : List Nat) : ((l.map setT).flatten).length = 6 * l.length := by
  induction l with
  | nil => rfl
  | cons i r ih =>
    rw [List.map_cons, List.flatten_cons, List.length_append, ih, List.length_cons]
    simp only [setT, nmL, List.length_append, List.length_cons, List.length_nil]
    omega
/-- Signs are read, one behind the other; the rest is this. -/
inductive LxL : List UInt8 → List Sg → List UInt8 → Prop where
  | nil {u : List UInt8} : LxL u [] u
  | cons {u u' v : List UInt8} {g : Sg} {gs : List Sg} (h0 : u ≠ []) (h1 : (lexS u).e = 0) (h2 : (lexS u).sg = g) (h3 : skipB (u.drop (lexS u).n) = u') (h4 : u'.length < u.length) (t : LxL u' gs v) : LxL u (g :: gs) v
theorem LxL.app {u v w : List UInt8} {a b : List Sg} (h : LxL u a v) (k : LxL v b w) : LxL u (a ++ b) w := by
  induction h with
  | nil => exact k
  | cons h0 h1 h2 h3 h4 _ ih => exact .cons h0 h1 h2 h3 h4 (ih k)
theorem LxL.lex {u v : List UInt8} {gs : List Sg} (h : LxL u gs v) : v = [] → ∀ f a cnt, u.length < f → cnt + gs.length ≤ 1024 → ∃ l, lexG f u a cnt = .inr l ∧ l.map (·.1) = gs ++ [noSg] := by
  induction h with
  | nil =>
    intro hv f a cnt hf hc
    subst hv
    obtain ⟨f, rfl⟩ : ∃ f', f = f' + 1 := ⟨f - 1, by omega⟩
    exact ⟨[(noSg, a)], by rw [lexG, if_pos rfl], rfl⟩
  | @cons u u' v g gs h0 h1 h2 h3 h4 _ ih =>
    intro hv f a cnt hf hc
    obtain ⟨f, rfl⟩ : ∃ f', f = f' + 1 := ⟨f - 1, by omega⟩
    rw [List.length_cons] at hc
    obtain ⟨l, e1, e2⟩ := ih hv f (a + (lexS u).n + empB (u.drop (lexS u).n) false) (cnt + 1) (by omega) (by omega)
    refine ⟨(g, a) :: l, ?_, by rw [List.map_cons, e2]; rfl⟩
    rw [lexG, if_neg h0, if_neg (by simp [h1]), if_neg (by omega), h3, e1, h2]
/-- A byte that is neither a blank nor begins a remark. -/
def okB (c : UInt8) : Bool := !blkB c && !(c.toNat == 35)
theorem skip_ok {c : UInt8} (r : List UInt8) (h : okB c = true) : skipB (c :: r) = c :: r := by
  simp only [okB, Bool.and_eq_true, Bool.not_eq_true', beq_eq_false_iff_ne] at h
  unfold skipB
  rw [empB, if_neg (by simp [h.1]), if_neg h.2, List.drop_zero]
/-- Begins with such a byte, or is empty. -/
def OkT (u : List UInt8) : Prop := skipB u = u
theorem okT_cons {c : UInt8} (r : List UInt8) (h : okB c = true) : OkT (c :: r) := skip_ok r h
theorem okT_nil : OkT [] := rfl
theorem LxL.one {u u' : List UInt8} {g : Sg} {n : Nat} (h : lexS u = ⟨g, n, 0⟩) (hd : u.drop n = u') (hk : OkT u') (hl : u'.length < u.length) : LxL u [g] u' :=
  .cons (by intro e; subst e; simp at hl) (by rw [h]) (by rw [h]) (by rw [h]; simp only; rw [hd]; exact hk) hl .nil
theorem lx_mk (c : UInt8) (r : List UInt8) (hk : OkT r) (h : lexS (c :: r) = ⟨mkG [c], 1, 0⟩) : LxL (c :: r) [mkG [c]] r := .one h rfl hk (by simp)
theorem lx40 (r : List UInt8) : lexS (40 :: r) = ⟨mkG [40], 1, 0⟩ := rfl
theorem lx41 (r : List UInt8) : lexS (41 :: r) = ⟨mkG [41], 1, 0⟩ := rfl
theorem lx123 (r : List UInt8) : lexS (123 :: r) = ⟨mkG [123], 1, 0⟩ := rfl
theorem lx125 (r : List UInt8) : lexS (125 :: r) = ⟨mkG [125], 1, 0⟩ := rfl
theorem lx44 (r : List UInt8) : lexS (44 :: r) = ⟨mkG [44], 1, 0⟩ := rfl
theorem lx59 (r : List UInt8) : lexS (59 :: r) = ⟨mkG [59], 1, 0⟩ := rfl
theorem lx61 (r : List UInt8) : lexS (61 :: 49 :: r) = ⟨mkG [61], 1, 0⟩ := rfl
theorem lx49 (c : UInt8) (r : List UInt8) (h : digB c = false) : lexS (49 :: c :: r) = ⟨nuG 1, 1, 0⟩ := by
  have e : runB digB (49 :: c :: r) = 1 := by
    rw [runB, if_pos (by decide), runB, if_neg (by simp [h])]
  show numS (49 :: c :: r) = _
  unfold numS
  rw [e]
  rfl
theorem nmB_nm : ∀ i, i < 40 → nmB (UInt8.ofNat (97 + i / 20)) = true ∧ nmB (UInt8.ofNat (97 + i % 20)) = true := by decide
theorem lxnm (i : Nat) (hi : i < 40) (c : UInt8) (r : List UInt8) (h : nmB c = false) : lexS (nmL i ++ c :: r) = ⟨nmG (nmL i), 3, 0⟩ := by
  obtain ⟨h1, h2⟩ := nmB_nm i hi
  have e : runB nmB (nmL i ++ c :: r) = 3 := by
    rw [runB_app nmB (nmL i) (c :: r) (by intro y hy; simp only [nmL, List.mem_cons, List.not_mem_nil, or_false] at hy; rcases hy with rfl | rfl | rfl; decide; exact h1; exact h2), runB, if_neg (by simp [h])]
    rfl
  show nameS (nmL i ++ c :: r) = _
  unfold nameS
  rw [e, if_neg (by decide)]
  have et : (nmL i ++ c :: r).take 3 = nmL i := rfl
  rw [et]
  have hw : wordsL.contains (nmL i) = false := by
    unfold nmL
    generalize UInt8.ofNat (97 + i / 20) = a
    generalize UInt8.ofNat (97 + i % 20) = b
    simp [wordsL]
  rw [hw]
  rfl
theorem lx_set (i : Nat) (hi : i < 40) (r : List UInt8) (hk : OkT r) : LxL (setT i ++ r) [nmG (nmL i), mkG [61], nuG 1, mkG [59]] r := by
  have e : setT i ++ r = nmL i ++ 61 :: (49 :: 59 :: r) := by unfold setT; simp
  rw [e]
  refine .app (a := [nmG (nmL i)]) (.one (lxnm i hi 61 _ (by decide)) (by rfl) (okT_cons _ (by decide)) (by simp [nmL])) ?_
  refine .app (a := [mkG [61]]) (lx_mk 61 _ (okT_cons _ (by decide)) (lx61 _)) ?_
  refine .app (a := [nuG 1]) (.one (lx49 59 _ (by decide)) rfl (okT_cons _ (by decide)) (by simp)) ?_
  exact lx_mk 59 _ hk (lx59 _)
theorem nmOk (i : Nat) (r : List UInt8) : OkT (setT i ++ r) := okT_cons _ (by decide)
theorem lx_sets : ∀ (l : List Nat) (r : List UInt8), (∀ i ∈ l, i < 40) → OkT r → LxL ((l.map setT).flatten ++ r) (l.flatMap fun i => [nmG (nmL i), mkG [61], nuG 1, mkG [59]]) r ∧ OkT ((l.map setT).flatten ++ r)
  | [], r, _, hk => ⟨.nil, hk⟩
  | i :: l, r, h, hk => by
    obtain ⟨h1, h2⟩ := lx_sets l r (fun j hj => h j (List.mem_cons_of_mem _ hj)) hk
    rw [List.map_cons, List.flatten_cons, List.append_assoc, List.flatMap_cons]
    exact ⟨.app (lx_set i (h i (List.mem_cons_self ..)) _ h2) h1, nmOk i _⟩
theorem lx_argR : ∀ (m : Nat) (r : List UInt8), LxL (49 :: (argR m ++ 41 :: r)) (rowG (List.replicate (m + 1) [nuG 1])) (41 :: r)
  | 0, r => .one (lx49 41 r (by decide)) rfl (okT_cons _ (by decide)) (by simp [argR])
  | m + 1, r => by
    refine .app (a := [nuG 1]) (b := mkG [44] :: rowG (List.replicate (m + 1) [nuG 1])) (.one (lx49 44 _ (by decide)) rfl (okT_cons _ (by decide)) (by simp)) ?_
    refine .app (a := [mkG [44]]) (lx_mk 44 _ (okT_cons _ (by decide)) (lx44 _)) ?_
    exact lx_argR m r
theorem lx_arg (m : Nat) (r : List UInt8) : LxL (argT m ++ 41 :: r) (rowG (List.replicate m [nuG 1])) (41 :: r) ∧ OkT (argT m ++ 41 :: r) := by
  cases m with
  | zero => exact ⟨.nil, okT_cons _ (by decide)⟩
  | succ m => exact ⟨lx_argR m r, okT_cons _ (by decide)⟩
theorem sg_lim (l : List Nat) (m : Nat) : sgN (limN l m) = wdG [111, 110] :: nmG [97] :: mkG [40] :: mkG [41] :: mkG [123] :: ((l.flatMap fun i => [nmG (nmL i), mkG [61], nuG 1, mkG [59]]) ++ (nmG [102] :: mkG [40] :: (rowG (List.replicate m [nuG 1]) ++ [mkG [41], mkG [59], mkG [125]]))) := by
  have e1 : sgN oneN = [nuG 1] := by rw [oneN, sgN_mk]; rfl
  have e2 : ∀ i, sgN (setN i) = [nmG (nmL i), mkG [61], nuG 1, mkG [59]] := fun i => by rw [setN, sgN_mk]; simp only [List.map_cons, List.map_nil, e1]; rfl
  have e3 : sgN (calN m) = nmG [102] :: mkG [40] :: (rowG (List.replicate m [nuG 1]) ++ [mkG [41], mkG [59]]) := by
    rw [calN, sgN_mk]
    simp only [List.map_cons, List.map_nil, sgN_mk, List.map_replicate, e1]
    simp [bldG]
  have e4 : sgN (blkN l m) = mkG [123] :: ((l.flatMap fun i => [nmG (nmL i), mkG [61], nuG 1, mkG [59]]) ++ (nmG [102] :: mkG [40] :: (rowG (List.replicate m [nuG 1]) ++ [mkG [41], mkG [59], mkG [125]]))) := by
    rw [blkN, sgN_mk]
    simp only [bldG, List.map_append, List.map_cons, List.map_nil, e3, List.map_map, List.flatten_append, List.flatten_cons, List.flatten_nil, List.append_nil]
    have : (l.map (sgN ∘ setN)).flatten = l.flatMap fun i => [nmG (nmL i), mkG [61], nuG 1, mkG [59]] := by
      rw [List.flatMap_def]
      congr 1
    rw [this]
    simp only [List.append_assoc, List.cons_append, List.nil_append]
  rw [limN, sgN_mk]
  simp only [List.map_cons, List.map_nil, hanN, sgN_mk, e4]
  simp [bldG, rowG]
theorem lx_lim (l : List Nat) (hl : ∀ i ∈ l, i < 40) (m : Nat) : LxL (limT l m) (sgN (limN l m)) [] := by
  obtain ⟨a1, a2⟩ := lx_arg m [59, 125]
  obtain ⟨s1, s2⟩ := lx_sets l ([102, 40] ++ (argT m ++ [41, 59, 125])) hl (okT_cons _ (by decide))
  rw [sg_lim]
  unfold limT
  refine .app (a := [wdG [111, 110]]) (u := 111 :: 110 :: 32 :: 97 :: 40 :: _) (.cons (u' := 97 :: 40 :: _) (by simp) rfl rfl rfl (by simp only [List.length_cons]; omega) .nil) ?_
  refine .app (a := [nmG [97]]) (u := 97 :: 40 :: _) (.one (u' := 40 :: _) (by rfl) (by rfl) (okT_cons _ (by decide)) (by simp)) ?_
  refine .app (a := [mkG [40]]) (lx_mk 40 _ (okT_cons _ (by decide)) (lx40 _)) ?_
  refine .app (a := [mkG [41]]) (lx_mk 41 _ (okT_cons _ (by decide)) (lx41 _)) ?_
  refine .app (a := [mkG [123]]) (lx_mk 123 _ s2 (lx123 _)) ?_
  refine .app s1 ?_
  refine .app (a := [nmG [102]]) (u := 102 :: 40 :: _) (.one (u' := 40 :: _) (by rfl) (by rfl) (okT_cons _ (by decide)) (by simp)) ?_
  refine .app (a := [mkG [40]]) (lx_mk 40 _ a2 (lx40 _)) ?_
  refine .app a1 ?_
  refine .app (a := [mkG [41]]) (lx_mk 41 _ (okT_cons _ (by decide)) (lx41 _)) ?_
  refine .app (a := [mkG [59]]) (lx_mk 59 _ (okT_cons _ (by decide)) (lx59 _)) ?_
  exact lx_mk 125 _ okT_nil (lx125 _)
theorem nmOkL : ∀ i, i < 40 → LexOk (nmG (nmL i)) := fun i hi => ⟨fun r => lxnm i hi 32 r (by decide), 118, _, rfl, by decide, by decide, by simp⟩
theorem rowG1_len : ∀ m, (rowG (List.replicate m [nuG 1])).length ≤ 2 * m
  | 0 => by simp [rowG]
  | 1 => by simp [rowG]
  | m + 2 => by
    have := rowG1_len (m + 1)
    have e : rowG (List.replicate (m + 2) [nuG 1]) = nuG 1 :: mkG [44] :: rowG (List.replicate (m + 1) [nuG 1]) := rfl
    rw [e]
    simp only [List.length_cons]
    omega
theorem lim_len (l : List Nat) (m : Nat) : (limT l m).length ≤ 6 * l.length + 2 * m + 12 := by
  have h1 := setT_len l
  have h2 := argT_len m
  unfold limT
  simp only [List.length_append, List.length_cons, List.length_nil]
  omega
theorem sets_len (l : List Nat) : (l.flatMap fun i => [nmG (nmL i), mkG [61], nuG 1, mkG [59]]).length = 4 * l.length := by
  induction l with
  | nil => rfl
  | cons i r ih => rw [List.flatMap_cons, List.length_append, ih, List.length_cons]; simp only [List.length_cons, List.length_nil]; omega
theorem fit_lim (l : List Nat) (hl : ∀ i ∈ l, i < 40) (m : Nat) : FitO (hanN l m) := by
  have ok : ∀ (c : UInt8), c = 97 ∨ c = 102 → LexOk (nmG [c]) := fun c hc => by
    rcases hc with rfl | rfl
    · exact ⟨fun r => rfl, 97, [], rfl, by decide, by decide, by simp⟩
    · exact ⟨fun r => rfl, 102, [], rfl, by decide, by decide, by simp⟩
  have one : ∀ d, FitE d oneN := fun d => .num (by decide)
  refine ⟨[97], [], blkN l m, rfl, ok 97 (.inl rfl), by simp, .block (by decide) fun k hk => ?_⟩
  rcases List.mem_append.1 hk with hk | hk
  · obtain ⟨i, hi, rfl⟩ := List.mem_map.1 hk
    exact .set (nmOkL i (hl i hi)) (one _)
  · rw [List.mem_singleton] at hk
    subst hk
    exact .do_ (.call (ok 102 (.inr rfl)) (fun k hk => by decide) (fun k hk => by rw [List.eq_of_mem_replicate hk]; exact one _))
theorem parse_lim (l : List Nat) (hl : ∀ i ∈ l, i < 40) (m : Nat) (hn : 4 * l.length + 2 * m ≤ 1000) : parseT (limT l m) = (limN l m, 0) := by
  have hx := lx_lim l hl m
  have hlen := lim_len l m
  have hg : (sgN (limN l m)).length ≤ 1024 := by
    have h1 := sets_len l
    have h2 := rowG1_len m
    rw [sg_lim]
    simp only [List.length_cons, List.length_append, h1, List.length_nil]
    omega
  obtain ⟨L, e1, e2⟩ := hx.lex rfl ((limT l m).length + 1) 0 0 (by omega) (by omega)
  have hs : signsB (limT l m) = .inr L := by
    unfold signsB
    have h0 : empB (limT l m) false = 0 := by unfold limT; rfl
    have hk : skipB (limT l m) = limT l m := by unfold skipB; rw [h0, List.drop_zero]
    rw [if_neg (by omega), hk, h0, e1]
  obtain ⟨f1, f2⟩ := scriptR (ks := [hanN l m]) (fun k hk => by rw [List.mem_singleton] at hk; subst hk; exact fit_lim l hl m) e2
  unfold parseT
  rw [hs]
  simp only
  rw [if_neg (by simp [f2]), f1]
  rfl
end Go.Proofs.YtpbiblhkcomekaaGreat

/- CodeLimits, in plain words: what comes of a text of so many variables and arguments. -/
namespace Go.Proofs.YtpbiblhkcomekaaGreat
open Go Go.RowKit
set_option linter.unusedSimpArgs false
set_option linter.unusedVariables false
set_option maxRecDepth 20000
/-- What a node adds to the variables. -/
def nm1 : Nd → List (List UInt8) → List (List UInt8)
  | .mk op tx _ _, ns => if op = 11 ∨ op = 3 then (placeL ns tx).2 else ns
theorem coll_names : ∀ (L : List (Nat × Nd)) (s : CoS), (collAll L s).names = L.foldl (fun ns p => nm1 p.2 ns) s.names
  | [], s => rfl
  | (d, .mk op tx nm ks) :: r, s => by
    rw [collAll_cons, coll_names r, List.foldl_cons]
    rfl
theorem walkL_app (d : Nat) : ∀ (a b : List Nd), walkL d (a ++ b) = walkL d a ++ walkL d b
  | [], b => by rw [walkL]; rfl
  | x :: a, b => by rw [List.cons_append, walkL, walkL, walkL_app d a b, List.append_assoc]
theorem walk_one (d : Nat) : walkN d oneN = [(d, oneN)] := by rw [oneN, walkN, walkL]
theorem sets_names (d : Nat) : ∀ (l : List Nat) (ns : List (List UInt8)), (walkL d (l.map setN)).foldl (fun ns p => nm1 p.2 ns) ns = l.foldl (fun ns i => (placeL ns (nmL i)).2) ns
  | [], ns => by rw [List.map_nil, walkL]; rfl
  | i :: r, ns => by
    rw [List.map_cons, walkL, List.foldl_append, List.foldl_cons, ← sets_names d r]
    congr 1
theorem ones_names (d : Nat) : ∀ (m : Nat) (ns : List (List UInt8)), (walkL d (List.replicate m oneN)).foldl (fun ns p => nm1 p.2 ns) ns = ns
  | 0, ns => by rw [List.replicate_zero, walkL]; rfl
  | m + 1, ns => by
    rw [List.replicate_succ, walkL, List.foldl_append, walk_one]
    simp only [List.foldl_cons, List.foldl_nil]
    have : nm1 oneN ns = ns := by simp [nm1, oneN]
    rw [this]
    exact ones_names d m ns
theorem nm_new : ∀ k, k < 40 → nmL k ∉ (List.range k).map nmL := by decide +kernel
theorem range_names : ∀ n, n ≤ 40 → (List.range n).foldl (fun ns i => (placeL ns (nmL i)).2) [] = (List.range n).map nmL
  | 0, _ => rfl
  | n + 1, h => by
    rw [List.range_succ, List.foldl_append, range_names n (by omega), List.foldl_cons, List.foldl_nil, placeL, if_neg (nm_new n (by omega)), List.map_append]
    rfl
theorem lim_names (n m : Nat) (hn : n ≤ 40) : (collAll (walkN 0 (limN (List.range n) m)) ⟨[], [], []⟩).names = (List.range n).map nmL := by
  rw [coll_names]
  have e1 : walkN 0 (limN (List.range n) m) = (0, limN (List.range n) m) :: (1, hanN (List.range n) m) :: (2, blkN (List.range n) m) :: (walkL 3 ((List.range n).map setN) ++ ((3, calN m) :: (4, .mk 12 [102] 0 (List.replicate m oneN)) :: walkL 5 (List.replicate m oneN))) := by
    rw [limN, walkN, walkL, walkL, hanN, walkN, walkL, walkL, blkN, walkN, walkL_app, walkL, walkL, calN, walkN, walkL, walkL, walkN]
    simp only [List.append_nil, List.cons_append, List.nil_append]
  rw [e1]
  simp only [List.foldl_cons, List.foldl_append]
  have h0 : nm1 (limN (List.range n) m) [] = [] := by simp [nm1, limN]
  have h1 : nm1 (hanN (List.range n) m) [] = [] := by simp [nm1, hanN]
  have h2 : nm1 (blkN (List.range n) m) [] = [] := by simp [nm1, blkN]
  rw [h0, h1, h2, sets_names, range_names n hn]
  have h3 : ∀ ns, nm1 (calN m) ns = ns := fun ns => by simp [nm1, calN]
  have h4 : ∀ ns, nm1 (.mk 12 [102] 0 (List.replicate m oneN)) ns = ns := fun ns => by simp [nm1]
  rw [h3, h4, ones_names]
/-! ### The stack. -/
theorem put_dm (op a : Nat) (t : List UInt8) (g : Int) (s : MkS) : (putM op a t g s).2.depth = s.depth + g ∧ (putM op a t g s).2.most = max s.most (s.depth + g) := by
  unfold putM
  cases s.l.getLast? with
  | none => exact ⟨rfl, rfl⟩
  | some y =>
    simp only
    split <;> exact ⟨rfl, rfl⟩
theorem one_dm (s : MkS) (h : s.depth ≤ s.most) : (exprM oneN s).depth = s.depth + 1 ∧ (exprM oneN s).most = max s.most (s.depth + 1) := by
  rw [oneN, exprM, exprL]
  rw [if_neg (by decide), if_neg (by decide), if_neg (by decide), if_neg (by decide)]
  obtain ⟨h1, h2⟩ := put_dm 0 1 [] 0 s
  generalize (putM 0 1 [] 0 s).2 = m at *
  have e1 : ∀ c, (cstM c m).2.depth = m.depth := fun c => rfl
  have e2 : ∀ c, (cstM c m).2.most = m.most := fun c => rfl
  obtain ⟨h3, h4⟩ := put_dm 1 (cstM ((cstN (.mk 8 [] 1 [])).getD ⟨0, 0, []⟩) m).1 [] 1 (cstM ((cstN (.mk 8 [] 1 [])).getD ⟨0, 0, []⟩) m).2
  rw [e1] at h3 h4
  rw [e2] at h4
  rw [h3, h4, h1, h2]
  omega
theorem ones_dm : ∀ (m : Nat) (s : MkS), s.depth ≤ s.most → (exprL (List.replicate m oneN) s).depth = s.depth + m ∧ (exprL (List.replicate m oneN) s).most = max s.most (s.depth + m) ∨ m = 0 ∧ exprL (List.replicate m oneN) s = s
  | 0, s, h => .inr ⟨rfl, by rw [List.replicate_zero, exprL]⟩
  | m + 1, s, h => by
    rw [List.replicate_succ, exprL]
    obtain ⟨h1, h2⟩ := one_dm s h
    refine .inl ?_
    rcases ones_dm m (exprM oneN s) (by omega) with ⟨h3, h4⟩ | ⟨rfl, h3⟩
    · rw [h3, h4, h1, h2]
      omega
    · rw [h3, h1, h2]
      simp
theorem set_dm (i : Nat) (s : MkS) (h : s.depth ≤ s.most) : (stmtM (setN i) false s).depth = s.depth ∧ (stmtM (setN i) false s).most = max s.most (s.depth + 1) := by
  rw [setN, stmtM_set _ _ _ _ _ rfl]
  obtain ⟨h1, h2⟩ := put_dm 0 1 [] 0 s
  generalize (putM 0 1 [] 0 s).2 = q at *
  obtain ⟨h3, h4⟩ := one_dm q (by omega)
  generalize exprM oneN q = m at *
  obtain ⟨h5, h6⟩ := put_dm 3 (nameM (nmL i) m).1 [] (-1) (nameM (nmL i) m).2
  have e1 : (nameM (nmL i) m).2.depth = m.depth := rfl
  have e2 : (nameM (nmL i) m).2.most = m.most := rfl
  rw [e1] at h5 h6
  rw [e2] at h6
  rw [h5, h6]
  omega
theorem sets_dm : ∀ (l : List Nat) (s : MkS), s.depth = 0 → 0 ≤ s.most → s.most ≤ 1 → (stmtLM (l.map setN) s).depth = 0 ∧ 0 ≤ (stmtLM (l.map setN) s).most ∧ (stmtLM (l.map setN) s).most ≤ 1
  | [], s, h1, h2, h3 => by rw [List.map_nil, stmtLM]; exact ⟨h1, h2, h3⟩
  | i :: r, s, h1, h2, h3 => by
    rw [List.map_cons, stmtLM]
    obtain ⟨a, b⟩ := set_dm i s (by omega)
    exact sets_dm r _ (by omega) (by omega) (by omega)
theorem cal_dm (m : Nat) (s : MkS) (h1 : s.depth = 0) (h2 : 0 ≤ s.most) (h3 : s.most ≤ 1) : (stmtM (calN m) false s).depth = 0 ∧ (stmtM (calN m) false s).most = max 1 (m : Int) := by
  rw [calN, stmtM_do _ _ _ _ _ rfl]
  obtain ⟨a1, a2⟩ := put_dm 0 1 [] 0 s
  generalize (putM 0 1 [] 0 s).2 = q at *
  rw [exprM]
  obtain ⟨b1, b2⟩ := put_dm 0 1 [] 0 q
  generalize (putM 0 1 [] 0 q).2 = q2 at *
  simp only
  rw [if_neg (by decide), if_neg (by decide), if_neg (by decide), if_pos trivial, List.length_replicate]
  have hz : (exprL (List.replicate m oneN) q2).depth = q2.depth + m ∧ (exprL (List.replicate m oneN) q2).most = max q2.most (q2.depth + m) := by
    rcases ones_dm m q2 (by omega) with h | ⟨rfl, h⟩
    · exact h
    · rw [h]
      simp only [Int.ofNat_zero, Int.natCast_zero]
      omega
  generalize exprL (List.replicate m oneN) q2 = q3 at *
  obtain ⟨c1, c2⟩ := put_dm 7 m [102] (1 - m) q3
  generalize (putM 7 m [102] (1 - m) q3).2 = q4 at *
  obtain ⟨d1, d2⟩ := put_dm 4 0 [] (-1) q4
  rw [d1, d2]
  omega
theorem stmtLM_app : ∀ (a b : List Nd) (s : MkS), stmtLM (a ++ b) s = stmtLM b (stmtLM a s)
  | [], b, s => by rw [List.nil_append, stmtLM]
  | x :: a, b, s => by rw [List.cons_append, stmtLM, stmtLM, stmtLM_app a b]
theorem lim_most (l : List Nat) (m : Nat) (ns : List (List UInt8)) (cs : List Cst) : (handS [] (blkN l m) ns cs).most = max 1 (m : Int) := by
  unfold handS
  rw [blkN, stmtM_block, stmtLM_app, stmtLM, stmtLM]
  obtain ⟨a1, a2, a3⟩ := sets_dm l ⟨(parL [] ns []).2, cs, [], 0, 0, 0⟩ rfl (Int.le_refl _) (by simp)
  generalize stmtLM (l.map setN) ⟨(parL [] ns []).2, cs, [], 0, 0, 0⟩ = s at *
  obtain ⟨b1, b2⟩ := cal_dm m s a1 a2 a3
  obtain ⟨c1, c2⟩ := put_dm 10 0 [] 0 (stmtM (calN m) false s)
  rw [c2, b1, b2]
  omega
theorem cnt_ones : ∀ m, cntL (List.replicate m oneN) = m
  | 0 => by rw [List.replicate_zero, cntL]
  | m + 1 => by rw [List.replicate_succ, cntL, cnt_ones m, oneN, cntN, cntL]; omega
theorem cnt_sets : ∀ l : List Nat, cntL (l.map setN) = 2 * l.length
  | [] => by rw [List.map_nil, cntL]; rfl
  | i :: r => by rw [List.map_cons, cntL, cnt_sets r, setN, cntN, cntL, cntL, oneN, cntN, cntL, List.length_cons]; omega
theorem cnt_blk (l : List Nat) (m : Nat) : cntN (blkN l m) = 3 + 2 * l.length + m := by
  rw [blkN, cntN, cntL_snocW, cnt_sets, calN, cntN, cntL, cntL, cntN, cnt_ones]
  omega
theorem lim_len2 (l : List Nat) (hl : ∀ i ∈ l, i < 40) (m : Nat) (ns : List (List UInt8)) (cs : List Cst) (k : Nat) (h1 : ns.length ≤ k) (h2 : cs.length ≤ k) : (handS [] (blkN l m) ns cs).l.length ≤ k + 10 * (3 + 2 * l.length + m) + 1 := by
  unfold handS
  obtain ⟨x, ys, b, e, _, _, hb⟩ := fit_lim l hl m
  have eb : b = blkN l m := by
    rw [hanN] at e
    injection e with _ _ _ e4
    have := congrArg List.getLast? e4
    simp at this
    exact this.symm
  subst eb
  have hbd : Bd ⟨(parL [] ns []).2, cs, [], 0, 0, 0⟩ k := ⟨h1, h2, by simp, by simp, by simp only; omega, by simp only; omega, by simp only; omega, by simp only; omega, by intro x hx; cases hx⟩
  obtain ⟨g1, _⟩ := hb.sh.gr _ k hbd
  rw [show ((1 : Nat) == 1) = true from rfl, cnt_blk] at g1
  exact (g1.put 10 0 [] 0 (j := k + 10 * (3 + 2 * l.length + m) + 1) (by omega) (by omega) (by omega) (by omega) (by omega)).l
/-- What is wrong. -/
def eOf : Nat ⊕ Pgm → Nat
  | .inl e => e
  | .inr _ => 0
theorem lim_res (n m : Nat) (hn : n < 40) (hm : m < 140) : eOf (ofM (limT (List.range n) m)) = if 32 < n then 6 else if 128 < m then 9 else 0 := by
  have hl : ∀ i ∈ List.range n, i < 40 := fun i hi => by have := List.mem_range.1 hi; omega
  have hp := parse_lim (List.range n) hl m (by rw [List.length_range]; omega)
  unfold ofM
  rw [hp]
  simp only
  rw [if_pos trivial]
  have hN := lim_names n m (by omega)
  have hB := Bc.all (s := ⟨[], [], []⟩) (k := 0) (walkN 0 (limN (List.range n) m)) ⟨by simp, by simp, by simp⟩
  rw [walkN_len] at hB
  have hc : cntN (limN (List.range n) m) = 5 + 2 * n + m := by
    rw [limN, cntN, cntL, cntL, hanN, cntN, cntL, cntL, cnt_blk, List.length_range]
    omega
  rw [hc] at hB
  unfold compM
  simp only
  generalize collAll (walkN 0 (limN (List.range n) m)) ⟨[], [], []⟩ = σ at *
  have hnl : σ.names.length = n := by rw [hN]; simp
  rw [hnl]
  show eOf (if 32 < n then .inl 6 else match compL [hanN (List.range n) m] σ.names σ.consts false [] with
    | .inl e => .inl e
    | .inr (ns, cs, hs) => .inr ⟨ns, cs, hs, σ.calls⟩) = _
  by_cases h32 : 32 < n
  · rw [if_pos h32, if_pos h32]
    rfl
  rw [if_neg h32, if_neg h32]
  have hlen := lim_len2 (List.range n) hl m σ.names σ.consts 300 (by omega) (by have := hB.consts; omega)
  rw [List.length_range] at hlen
  have hmost := lim_most (List.range n) m σ.names σ.consts
  rw [hanN, compL]
  simp only [List.dropLast_singleton, List.getLastD_cons, List.getLastD_nil]
  generalize handS [] (blkN (List.range n) m) σ.names σ.consts = M at *
  rw [if_neg (by omega), compL, hmost]
  by_cases h128 : 128 < m
  · rw [if_pos h128, if_pos (by simp; omega)]
    rfl
  · rw [if_neg h128, if_neg (by simp; omega)]
    rfl
end Go.Proofs.YtpbiblhkcomekaaGreat

/- The program's Handler: twins; lives of layer 22. -/
namespace Go.Proofs.YtpbiblhkcomekaaGreat
open Go Go.RowKit
set_option linter.unusedSimpArgs false
set_option linter.unusedVariables false
set_option maxRecDepth 100000
set_option maxHeartbeats 8000000
theorem one_iv (l : List Nat) : (ivR l).all VV.one = true := by unfold ivR; simp [iV, VV.one]
theorem one_ops : ∀ l : List Ins, (opsR l).all VV.one = true
  | [] => rfl
  | x :: r => by
    have ih := one_ops r
    show (insC x ++ opsR r).all VV.one = true
    rw [List.all_append, ih]
    rfl
theorem velems_iv (x : List Nat) (H : Heap) : velems 1 (.ro x.length (ivR x)) H = some (x.length, ivR x) := by simp [velems, ivR_len]
theorem velems_op (x : List Ins) (H : Heap) : velems 3 (.ro x.length (opsR x)) H = some (x.length, opsR x) := by simp [velems, opsR_len]
theorem cloneI_call (x : List Nat) (hm : x.length ≤ 1000000) (H : Heap) : VCall Tryz.prog 55 [.ro x.length (ivR x)] H (fun v K => v = .ro x.length (ivR x) ∧ K = H) := by
  refine VCall.frozen (Q := fun v K => Frz K v (.ro x.length (ivR x))) (by intro v hv; rw [List.mem_singleton] at hv; subst hv; exact nameless_ro (ivR_nl x)) ?_ (fun v K h => h)
  by_cases hl : x.length = 0
  · have hl2 := List.eq_nil_of_length_eq_zero hl
    subst hl2
    refine VCall.go Tryz.func55 rfl ?_
    repeat' (first|with_reducible refine And.intro ?_ ?_|((with_reducible intro hc);(try simp only [zA,zB,zC,zD,zE,zF,zG,zH,zI,zJ,zK,zL,zM,zN,zO,zP,zQ,zR,zS,zT,zU,zV,zW] at hc);(first|exact absurd rfl hc|exact absurd trivial hc|(exfalso;omega)|skip))|((conv => whnf);first|with_reducible refine And.intro ?_ ?_|refine ifB_intro ?_ ?_|refine xA (by omega) ?_|(refine xB ?_;intro kw hk1 hk2)|refine xC (by omega) ?_|refine xD ?_|refine xE (by omega) ?_|refine xF (by omega) ?_|refine xG ?_|refine xH ?_|refine xI (by omega) ?_|refine xJ (by omega) ?_|(with_reducible refine stopA ?_)|refine Exists.intro _ (And.intro (by rfl) ?_)|refine GOp.via (by rfl) ?_|(with_reducible first|refine stopO ?_|refine stopE ?_|refine stopD ?_|refine stopW ?_|refine stopG ?_|refine stopC ?_|refine stopR ?_)))
    · exact Done'.mk Frz.nil0
    · exact Done'.mk (Frz.sl rfl (by simp) (by intro v hv; have hv : v ∈ ([] : List VV) := hv; cases hv))
  · refine VCall.go Tryz.func55 rfl ?_
    repeat' (first|with_reducible refine And.intro ?_ ?_|((with_reducible intro hc);(try simp only [zA,zB,zC,zD,zE,zF,zG,zH,zI,zJ,zK,zL,zM,zN,zO,zP,zQ,zR,zS,zT,zU,zV,zW] at hc);(first|exact absurd rfl hc|exact absurd trivial hc|(exfalso;omega)|skip))|((conv => whnf);first|with_reducible refine And.intro ?_ ?_|refine ifB_intro ?_ ?_|refine xA (by omega) ?_|(refine xB ?_;intro kw hk1 hk2)|refine xC (by omega) ?_|refine xD ?_|refine xE (by omega) ?_|refine xF (by omega) ?_|refine xG ?_|refine xH ?_|refine xI (by omega) ?_|refine xJ (by omega) ?_|(with_reducible refine stopA ?_)|refine Exists.intro _ (And.intro (by rfl) ?_)|refine GOp.via (by rfl) ?_|(with_reducible first|refine stopO ?_|refine stopE ?_|refine stopD ?_|refine stopW ?_|refine stopG ?_|refine stopC ?_|refine stopR ?_)))
    refine GOp'.via ((vapp_full sty_P (d := .slice 3) Tryz.underlying35 (by intro k h; cases h) (b := 0) (o := 0) (n := 0) (c := 0) (z' := 1) (vs := []) (rw := true) (m := x.length) (l := ivR x) (velems_iv x _) (one_iv x) rfl (by omega) (by omega) (by simp) (by omega) (by omega)).trans (by rw [Nat.zero_add])) ?_
    repeat' (first|with_reducible refine And.intro ?_ ?_|((with_reducible intro hc);(try simp only [zA,zB,zC,zD,zE,zF,zG,zH,zI,zJ,zK,zL,zM,zN,zO,zP,zQ,zR,zS,zT,zU,zV,zW] at hc);(first|exact absurd rfl hc|exact absurd trivial hc|(exfalso;omega)|skip))|((conv => whnf);first|with_reducible refine And.intro ?_ ?_|refine ifB_intro ?_ ?_|refine xA (by omega) ?_|(refine xB ?_;intro kw hk1 hk2)|refine xC (by omega) ?_|refine xD ?_|refine xE (by omega) ?_|refine xF (by omega) ?_|refine xG ?_|refine xH ?_|refine xI (by omega) ?_|refine xJ (by omega) ?_|(with_reducible refine stopA ?_)|refine Exists.intro _ (And.intro (by rfl) ?_)|refine GOp.via (by rfl) ?_|(with_reducible first|refine stopO ?_|refine stopE ?_|refine stopD ?_|refine stopW ?_|refine stopG ?_|refine stopC ?_|refine stopR ?_)))
    refine Done'.mk ?_
    have := Frz.sl (K := ⟨[(1, .cells true (ivR x)), (0, .cells true [])], 2⟩) (b := 1) (o := 0) (n := x.length) (z := 1) (c := none) rfl (by rw [ivR_len]; omega) (ivR_nl x)
    rw [List.drop_zero, List.take_of_length_le (by rw [ivR_len]; omega)] at this
    exact this
theorem cloneP_call (x : List Ins) (hm : x.length ≤ 1000000) (H : Heap) : VCall Tryz.prog 56 [.ro x.length (opsR x)] H (fun v K => v = .ro x.length (opsR x) ∧ K = H) := by
  refine VCall.frozen (Q := fun v K => Frz K v (.ro x.length (opsR x))) (by intro v hv; rw [List.mem_singleton] at hv; subst hv; exact nameless_ro (opsR_nl x)) ?_ (fun v K h => h)
  by_cases hl : x.length = 0
  · have hl2 := List.eq_nil_of_length_eq_zero hl
    subst hl2
    refine VCall.go Tryz.func56 rfl ?_
    repeat' (first|with_reducible refine And.intro ?_ ?_|((with_reducible intro hc);(try simp only [zA,zB,zC,zD,zE,zF,zG,zH,zI,zJ,zK,zL,zM,zN,zO,zP,zQ,zR,zS,zT,zU,zV,zW] at hc);(first|exact absurd rfl hc|exact absurd trivial hc|(exfalso;omega)|skip))|((conv => whnf);first|with_reducible refine And.intro ?_ ?_|refine ifB_intro ?_ ?_|refine xA (by omega) ?_|(refine xB ?_;intro kw hk1 hk2)|refine xC (by omega) ?_|refine xD ?_|refine xE (by omega) ?_|refine xF (by omega) ?_|refine xG ?_|refine xH ?_|refine xI (by omega) ?_|refine xJ (by omega) ?_|(with_reducible refine stopA ?_)|refine Exists.intro _ (And.intro (by rfl) ?_)|refine GOp.via (by rfl) ?_|(with_reducible first|refine stopO ?_|refine stopE ?_|refine stopD ?_|refine stopW ?_|refine stopG ?_|refine stopC ?_|refine stopR ?_)))
    · exact Done'.mk Frz.nil0
    · exact Done'.mk (Frz.sl rfl (by simp) (by intro v hv; have hv : v ∈ ([] : List VV) := hv; cases hv))
  · refine VCall.go Tryz.func56 rfl ?_
    repeat' (first|with_reducible refine And.intro ?_ ?_|((with_reducible intro hc);(try simp only [zA,zB,zC,zD,zE,zF,zG,zH,zI,zJ,zK,zL,zM,zN,zO,zP,zQ,zR,zS,zT,zU,zV,zW] at hc);(first|exact absurd rfl hc|exact absurd trivial hc|(exfalso;omega)|skip))|((conv => whnf);first|with_reducible refine And.intro ?_ ?_|refine ifB_intro ?_ ?_|refine xA (by omega) ?_|(refine xB ?_;intro kw hk1 hk2)|refine xC (by omega) ?_|refine xD ?_|refine xE (by omega) ?_|refine xF (by omega) ?_|refine xG ?_|refine xH ?_|refine xI (by omega) ?_|refine xJ (by omega) ?_|(with_reducible refine stopA ?_)|refine Exists.intro _ (And.intro (by rfl) ?_)|refine GOp.via (by rfl) ?_|(with_reducible first|refine stopO ?_|refine stopE ?_|refine stopD ?_|refine stopW ?_|refine stopG ?_|refine stopC ?_|refine stopR ?_)))
    refine GOp'.via ((vapp_full sty_I (d := .slice 41) Tryz.underlying36 (by intro k h; cases h) (b := 0) (o := 0) (n := 0) (c := 0) (z' := 3) (vs := []) (rw := true) (m := x.length) (l := opsR x) (velems_op x _) (one_ops x) rfl (by omega) (by omega) (by simp) (by omega) (by omega)).trans (by rw [Nat.zero_add])) ?_
    repeat' (first|with_reducible refine And.intro ?_ ?_|((with_reducible intro hc);(try simp only [zA,zB,zC,zD,zE,zF,zG,zH,zI,zJ,zK,zL,zM,zN,zO,zP,zQ,zR,zS,zT,zU,zV,zW] at hc);(first|exact absurd rfl hc|exact absurd trivial hc|(exfalso;omega)|skip))|((conv => whnf);first|with_reducible refine And.intro ?_ ?_|refine ifB_intro ?_ ?_|refine xA (by omega) ?_|(refine xB ?_;intro kw hk1 hk2)|refine xC (by omega) ?_|refine xD ?_|refine xE (by omega) ?_|refine xF (by omega) ?_|refine xG ?_|refine xH ?_|refine xI (by omega) ?_|refine xJ (by omega) ?_|(with_reducible refine stopA ?_)|refine Exists.intro _ (And.intro (by rfl) ?_)|refine GOp.via (by rfl) ?_|(with_reducible first|refine stopO ?_|refine stopE ?_|refine stopD ?_|refine stopW ?_|refine stopG ?_|refine stopC ?_|refine stopR ?_)))
    refine Done'.mk ?_
    have := Frz.sl (K := ⟨[(1, .cells true (opsR x)), (0, .cells true [])], 2⟩) (b := 1) (o := 0) (n := x.length) (z := 3) (c := none) rfl (by rw [opsR_len]; omega) (opsR_nl x)
    rw [List.drop_zero, List.take_of_length_le (by rw [opsR_len]; omega)] at this
    exact this
theorem twin_call (h : Hnd) (h1 : h.params.length ≤ 1000000) (h2 : h.code.length ≤ 1000000) (H : Heap) : VCall Tryz.prog 35 [hV h] H (fun v K => v = hV h ∧ K = H) := by
  refine VCall.pure (by intro v hv; rw [List.mem_singleton] at hv; subst hv; exact hV_nl h) (hV_nl h) ?_
  have k1 := fun H => cloneI_call h.params h1 H
  have k2 := fun H => cloneP_call h.code h2 H
  unfold hV
  refine VCall.go Tryz.func35 rfl ?_
  (repeat' (first|with_reducible refine And.intro ?_ ?_|(with_reducible intro hc;(try simp only [zz] at hc);try exact ct)|exact Is.mk rfl rfl|((conv => whnf);first|with_reducible refine And.intro ?_ ?_|with_reducible intro hx|exact Is.mk rfl rfl|(with_reducible first|apply Val.via|apply ValH.via)|refine sp ?_|refine vx (by (first|exact vat_nd rfl rfl|exact vat_of rfl rfl rfl|rfl)) ?_|refine GWP.drawY mixed _ (by kernel_rfl) (by rfl) ?_|(first|refine cl (k1 _) ?_|refine cl (k2 _) ?_)|refine sq ?_)))
  (all_goals (first|omega|contradiction|skip))
  all_goals exact Done'.mk rfl
/-- A call whose argument is a slice of the caller's: it is frozen ahead of the call. -/
theorem VCall.fzS {P : Program} {f : FuncId} {H : Heap} {Q : VV → Heap → Prop} {b n z : Nat} {c : Option Nat} {vs : List VV} (hg : H.get b = some (.cells true vs)) (hl : 0 + n * z ≤ vs.length) (hn : ∀ v ∈ vs, Nameless v) (h : VCall P f [.ro n ((vs.drop 0).take (n * z))] (H.del b) Q) : VCall P f [.sl b 0 n c z] H Q := fun B M Z ρ w ra h1 h2 => by
  obtain ⟨l⟩ := ra
  match l, h2 with
  | [y], h2 =>
    have h3 := h2.2 0 _ _ rfl rfl
    cases h3 with
    | sl hk hcap hc hzz =>
      obtain ⟨ds, g1, g2, g3⟩ := h1.read hg hk 0 (n * z) hl
      refine (h B M _ ρ w _ (h1.freezeB hg hk) (Pw.cons ?_ Pw.nil)).mono ?_
      · refine .ro (cs := ds) (.inr rfl) hcap g1.1 (fun i hi => ?_) (fun i u c' hu hc' => ?_)
        · have := g3 i (ds[i]'hi) (List.getElem?_eq_getElem hi)
          rw [add_mk] at this
          rw [this, List.getElem?_eq_getElem hi]
        · have hm : u ∈ vs := List.mem_of_mem_drop (List.mem_of_mem_take (List.mem_of_getElem? hu))
          exact ((hn u hm) _ _ _ _ _ (g1.2 i u c' hu hc')).zmono fun _ h => .inl h
      · rintro e w' ⟨v', v, H', Z', ρ', e0, q, e1, r1, v1⟩
        exact ⟨v', v, H', Z', ρ', e0, q, e1.unfreeze (h1.ownB hg rfl hk), r1, v1⟩
theorem ofS (w : List UInt8) (hw : w.length ≤ 1200) {H : Heap} {b n : Nat} {c : Option Nat} {vs : List VV} (hg : H.get b = some (.cells true vs)) (hv : vs = w.map bV) (hn : n = w.length) : VCall Tryz.prog 8 [.sl b 0 n c 1] H (resH (ofM w) (H.del b)) := by
  subst hv hn
  refine VCall.fzS hg (by simp) (nameless_map nameless_bV w) ?_
  rw [List.drop_zero, Nat.mul_one, List.take_of_length_le (by simp)]
  exact of_call w hw _
def lvT : List UInt8 := [111, 110, 32, 97, 40, 120, 41, 123, 121, 61, 120, 59, 125]
def lvH : Hnd := ⟨[97], [0], [⟨0, 2, []⟩, ⟨2, 0, []⟩, ⟨3, 1, []⟩, ⟨10, 0, []⟩]⟩
def lvG : Pgm := ⟨[[120], [121]], [], [lvH], []⟩
theorem lv_of : ofM lvT = .inr lvG := by kernel_rfl
theorem eqN_run (f g : Ins) (w : World) : (Op.equal 41 (.agg #[.int .i64 f.op, .int .i64 f.a, .string ⟨f.text.toArray⟩]) (.agg #[.int .i64 g.op, .int .i64 g.a, .string ⟨g.text.toArray⟩])).run Tryz.prog w = .ok (decide (f = g)) w := by
  refine (fun d => ?_ : ∀ d : Nat, (Op.equalIn (d + 2) 41 _ _).run Tryz.prog w = .ok _ w) 9998
  have tk : vagg Tryz.prog 39 = some false := by kernel_rfl
  have ti : vagg Tryz.prog 3 = some false := by kernel_rfl
  have h1 := fun w => run_part1 tk (cs := #[.int .i64 f.op, .int .i64 f.a, .string ⟨f.text.toArray⟩]) (off := 0) rfl w
  have h2 := fun w => run_part1 tk (cs := #[.int .i64 g.op, .int .i64 g.a, .string ⟨g.text.toArray⟩]) (off := 0) rfl w
  have h3 := fun w => run_part1 ti (cs := #[.int .i64 f.op, .int .i64 f.a, .string ⟨f.text.toArray⟩]) (off := 1) rfl w
  have h4 := fun w => run_part1 ti (cs := #[.int .i64 g.op, .int .i64 g.a, .string ⟨g.text.toArray⟩]) (off := 1) rfl w
  have h5 := fun w => run_part1 vagg_str (cs := #[.int .i64 f.op, .int .i64 f.a, .string ⟨f.text.toArray⟩]) (off := 2) rfl w
  have h6 := fun w => run_part1 vagg_str (cs := #[.int .i64 g.op, .int .i64 g.a, .string ⟨g.text.toArray⟩]) (off := 2) rfl w
  have e1 := fun w => eqI_run (P := Tryz.prog) (t := 39) (k := .i64) Tryz.underlying39 f.op g.op d w
  have e2 := fun w => eqI_run (P := Tryz.prog) (t := 3) (k := .i64) Tryz.underlying3 f.a g.a d w
  have e3 := fun w => eqStr_run (P := Tryz.prog) (t := 9) Tryz.underlying9 ⟨f.text.toArray⟩ ⟨g.text.toArray⟩ d w
  rw [Op.equalIn]
  simp [run_underlying Tryz.underlying41, h1, h2, h3, h4, h5, h6, e1, e2, e3]
  rw [bytes_eqD]
  obtain ⟨f1, f2, f3⟩ := f
  obtain ⟨g1, g2, g3⟩ := g
  by_cases c1 : f1 = g1 <;> by_cases c2 : f2 = g2 <;> by_cases c3 : f3 = g3 <;> simp [c1, c2, c3] <;> (intros; omega)
theorem eqN_op {o : Oper} {ts : List VV} {H : Heap} {K : VV → Heap → Prop} {x y : Operand} {p : TypeId} {f g : Ins} (ho : o.op = .binOp .eql 41 x y p) (hx : veval ts x = .ag [iV f.op, iV f.a, strV f.text]) (hy : veval ts y = .ag [iV g.op, iV g.a, strV g.text]) (k : K (.sc (.bool (decide (f = g)))) H) : GOp' Tryz.prog o ts H K :=
  GOp'.eqAg ho (.inl rfl) hx hy rfl rfl (by kernel_rfl) (fun w => eqN_run f g w) k
theorem lives22_call (H : Heap) : VCall Tryz.prog 7 [] H (fun v K => v = .sc (.bool true) ∧ K = H) := by
  refine VCall.pure (by simp) (nameless_sc _) ?_
  have k1 : ∀ {H : Heap} {b n : Nat} {c : Option Nat} {vs : List VV}, H.get b = some (.cells true vs) → vs = lvT.map bV → n = lvT.length → VCall Tryz.prog 8 [.sl b 0 n c 1] H (fun v K => v = .tp [.ptr H.next 0, iV 0] ∧ K = ⟨pgO H.next (H.next + 1) (H.next + 2) (H.next + 3) lvG ++ (H.del b).objs, H.next + 4⟩) := fun {H b n c vs} hg hv hn => by
    have h := ofS lvT (by decide) (c := c) hg hv hn
    rw [lv_of] at h
    exact h
  have k2 := fun H => twin_call lvH (by decide) (by decide) H
  refine VCall.go Tryz.func7 rfl ?_
  (repeat' (first|with_reducible refine And.intro ?_ ?_|(with_reducible intro hc;(try simp only [zz] at hc);try exact ct)|exact Is.mk rfl rfl|((conv => whnf);first|with_reducible refine And.intro ?_ ?_|with_reducible intro hx|exact Is.mk rfl rfl|(with_reducible first|apply Val.via|apply ValH.via)|refine sp ?_|refine vx (by (first|exact vat_nd rfl rfl|exact vat_of rfl rfl rfl|rfl)) ?_|refine GWP.drawY mixed _ (by kernel_rfl) (by rfl) ?_|(first|refine cl (k1 rfl rfl rfl) ?_|refine cl (k2 _) ?_|(refine GCall.mk (VCall.inl Tryz.func13 rfl ?_))|(refine stopO (eqN_op (f := ⟨0,2,[]⟩) (g := ⟨0,2,[]⟩) rfl rfl rfl ?_)))|refine sq ?_)))
  all_goals (first|omega|contradiction|decide|skip)
  all_goals exact Done'.mk rfl
end Go.Proofs.YtpbiblhkcomekaaGreat

