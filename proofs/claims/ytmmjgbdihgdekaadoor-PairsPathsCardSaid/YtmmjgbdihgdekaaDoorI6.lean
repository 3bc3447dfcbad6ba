import Derived.Test.YtmmjgbdihgdekaaDoorI5
import Derived.Test.YtmmjgbdihgdekaaDoorH6
/- all of a form's pairs, and the law's comparison of pairs, walked. -/
namespace Go.Proofs.YtmmjgbdihgdekaaDoor
open Go Go.RowKit
set_option linter.unusedSimpArgs false
set_option linter.unusedVariables false
set_option maxRecDepth 100000
set_option maxHeartbeats 16000000
/-- Pairs of texts, as the document has them. -/
def rowsT (l : List PF) : List VV := l.flatMap fun f => [strV f.1, strV f.2]
theorem rowsT_len (l : List PF) : (rowsT l).length = l.length * 2 := by
  induction l with
  | nil => rfl
  | cons a r ih =>
    show (strV a.1 :: strV a.2 :: rowsT r).length = _
    simp only [List.length_cons, ih]
    omega
theorem rowsT_nameless (l : List PF) : ∀ v ∈ rowsT l, Nameless v := fun v hv => by
  obtain ⟨f, _, h⟩ := List.mem_flatMap.1 hv
  simp only [List.mem_cons, List.not_mem_nil, or_false] at h
  rcases h with rfl | rfl
  · exact nameless_strV _
  · exact nameless_strV _
theorem rowsT_snoc (l : List PF) (f : PF) : rowsT (l ++ [f]) = rowsT l ++ [strV f.1, strV f.2] := by
  unfold rowsT
  rw [List.flatMap_append, List.flatMap_cons, List.flatMap_nil, List.append_nil]
theorem sty_T : SlTy Tryd.prog 40 2 32 := ⟨⟨_, _, _, rfl, rfl, rfl, rfl, rfl, rfl⟩⟩
theorem rows2_atP (a b : PF → VV) : ∀ (l : List PF) (i : Nat) (f : PF), l[i]? = some f → ((l.flatMap fun f => [a f, b f]).drop (i * 2)).take 2 = [a f, b f] ∧ i * 2 + 2 ≤ (l.flatMap fun f => [a f, b f]).length
  | [], i, f, h => by simp at h
  | x :: l, 0, f, h => by
    simp at h
    subst h
    rw [List.flatMap_cons]
    refine ⟨rfl, ?_⟩
    simp
  | x :: l, i + 1, f, h => by
    have ih := rows2_atP a b l i f (by simpa using h)
    rw [List.flatMap_cons, show (i + 1) * 2 = (i * 2) + 1 + 1 by omega]
    refine ⟨ih.1, ?_⟩
    have := ih.2
    simp only [List.length_append, List.length_cons, List.length_nil] at this ⊢
    omega
theorem vat_rowsT {l : List PF} {i o : Nat} {f : PF} (h : l[i]? = some f) (ho : o = i * 2) : vat Tryd.prog 45 (rowsT l) o = some (.ag [strV f.1, strV f.2]) := by
  subst ho
  obtain ⟨h1, h2⟩ := rows2_atP (fun f => strV f.1) (fun f => strV f.2) l i f h
  have h0 : vagg Tryd.prog 45 = some true := by kernel_rfl
  have hz : vsize Tryd.prog 45 = some 2 := by kernel_rfl
  have h3 : Nat.ble (i * 2 + 2) (rowsT l).length = true := Nat.ble_eq_true_of_le h2
  simp only [vat, h0, hz, h3]
  exact congrArg (fun x => some (VV.ag x)) h1
theorem vat_rowsP {l : List PF} {i o : Nat} {f : PF} (h : l[i]? = some f) (ho : o = i * 2) : vat Tryd.prog 120 (rowsP l) o = some (.ag [strV f.1, roB f.2]) := by
  subst ho
  obtain ⟨h1, h2⟩ := rows2_atP (fun f => strV f.1) (fun f => roB f.2) l i f h
  have h0 : vagg Tryd.prog 120 = some true := by kernel_rfl
  have hz : vsize Tryd.prog 120 = some 2 := by kernel_rfl
  have h3 : Nat.ble (i * 2 + 2) (rowsP l).length = true := Nat.ble_eq_true_of_le h2
  simp only [vat, h0, hz, h3]
  exact congrArg (fun x => some (VV.ag x)) h1
def allV (l : List PF) : VV := .fn (.func 71) [] [.rp [.ro l.length (rowsP l)] 0]
theorem allp_call (l : List PF) (H : Heap) : VCall Tryd.prog 26 [formV l] H (fun v K => v = allV l ∧ K = H) := by
  refine VCall.frozen (Q := fun v K => Frz K v (allV l)) (by simp [nameless_formV]) ?_ (fun v K h => h)
  refine VCall.go Tryd.func26 rfl ?_
  repeat' (first | with_reducible refine And.intro ?_ ?_ | ((with_reducible intro hc); (try simp only [zA, zB, zC, zD, zE, zF, zG, zH, zI, zJ, zK, zL, zM, zN, zO, zP, zQ, zR, zS, zT, zU, zV, zW] at hc); (first | (exact absurd rfl hc) | (exact absurd trivial hc) | (exfalso; omega) | skip)) | exact Is.mk rfl rfl | ((conv => whnf); first | with_reducible refine And.intro ?_ ?_ | with_reducible intro hx | exact Is.mk rfl rfl | (with_reducible first | apply Val.via | apply ValH.via) | refine ifB_intro ?_ ?_ | refine xA (by omega) ?_ | ((refine xB ?_); intro kw hk1 hk2) | refine xC (by omega) ?_ | refine xD ?_ | refine xE (by omega) ?_ | refine xF (by omega) ?_ | refine xG ?_ | refine xH ?_ | refine xI (by omega) ?_ | refine xJ (by omega) ?_ | (with_reducible refine stopA ?_) | refine Exists.intro _ (And.intro (by (first | exact vat_of rfl rfl rfl | rfl)) ?_) | refine GOp.drawn (by rfl) (by rfl) (Nat.le_of_ble_eq_true (by rfl)) (by rfl) | refine GOp.via (by rfl) ?_ | refine GWP.drawY mixed _ (by kernel_rfl) (by rfl) ?_ | fail | (with_reducible first | refine stopO ?_ | refine stopE ?_ | refine stopD ?_ | refine stopW ?_ | refine stopG ?_ | refine stopC ?_ | refine stopR ?_)))
  exact Done'.mk (Frz.fn .nil (.cons (Frz.ptr (vs := [.ro l.length (rowsP l)]) rfl (FrzL.of (by simp [show Nameless (.ro l.length (rowsP l)) from nameless_ro (rowsP_nameless l)]))) .nil))
theorem frz_rowsT {K : Heap} {b : Nat} {l : List PF} (hg : K.get b = some (.opt (rowsT l))) : Frz K (.gs b l.length 2) (.ro l.length (rowsT l)) := Frz.gs hg (rowsT_len l) (rowsT_nameless l)
def getO (H : Heap) (b : Nat) : VObj := match H.get b with
  | some x => x
  | none => .gone
/-- A round of a caller's loop, behind which only some blocks are known. -/
theorem GRound.trim {P : Program} {l : Nat} {args : List VV} {Hc : Heap} (v : VV) (f : Heap → List (Nat × VObj)) (nx : Nat) (h : GRound' P l args Hc (fun x K => Done (x = v ∧ Gets K (f Hc) ∧ Nat.ble K.next nx = true))) : GRound P l args Hc (fun x K' => Is x v K' ⟨f Hc, nx⟩) := ⟨fun B M Z ρ w ra k N hk h1 h2 => by
  obtain ⟨fn, tmps, asg, bd, hr, h⟩ := h.out B M Z ρ w ra k N hk h1 h2
  refine ⟨fn, tmps, asg, bd, hr, RoundIn.mono h ?_⟩
  rintro e w' ⟨v', v2, K, Z', ρ', he, ⟨⟨rfl, q2, q3⟩⟩, e1, r1, v1⟩
  have q3 := Nat.le_of_ble_eq_true q3
  have q4 : ∀ b x, (⟨f Hc, nx⟩ : Heap).get b = some x → K.get b = some x := fun b x hx => (q2.get hx).1
  exact ⟨v', v2, ⟨f Hc, nx⟩, Z', ρ', he, ⟨rfl, rfl⟩, ⟨Nat.le_trans e1.nle q3, e1.rold, e1.zsub, e1.rsub, e1.keep, e1.size, e1.znew⟩,
    ⟨r1.glob, r1.os, r1.tape, r1.output, r1.size, r1.frame, fun b hb => r1.dom b (Nat.le_trans q3 hb), fun b x hx => Nat.lt_of_lt_of_le (r1.live b x (q4 b x hx)) q3, fun b b' k N N' x x' hx hx' => r1.inj b b' k N N' x x' (q4 _ _ hx) (q4 _ _ hx'), fun b x hx => r1.obj b x (q4 _ _ hx), r1.zlt⟩, v1⟩⟩
theorem run_part1 {P : Program} {t : TypeId} {cs : Array Value} {off : Nat} {v : Value} (ht : vagg P t = some false) (hc : cs[off]? = some v) (w : World) : (part t cs off).run P w = .ok v w := by
  simp [part, run_isAgg ht, hc]
theorem eqStr_run {P : Program} {t : TypeId} (hu : P.underlying t = some .string) (a b : ByteArray) (d : Nat) (w : World) : (Op.equalIn (d + 1) t (.string a) (.string b)).run P w = .ok (a == b) w := by
  simp [Op.equalIn, run_underlying hu]
theorem eqT_run (f g : PF) (w : World) : (Op.equal 45 (.agg #[.string ⟨f.1.toArray⟩, .string ⟨f.2.toArray⟩]) (.agg #[.string ⟨g.1.toArray⟩, .string ⟨g.2.toArray⟩])).run Tryd.prog w = .ok (f == g) w := by
  refine (fun d => ?_ : ∀ d : Nat, (Op.equalIn (d + 2) 45 _ _).run Tryd.prog w = .ok _ w) 9998
  have h1 := fun w => run_part1 vagg_str (cs := #[.string ⟨f.1.toArray⟩, .string ⟨f.2.toArray⟩]) (off := 0) rfl w
  have h2 := fun w => run_part1 vagg_str (cs := #[.string ⟨g.1.toArray⟩, .string ⟨g.2.toArray⟩]) (off := 0) rfl w
  have h3 := fun w => run_part1 vagg_str (cs := #[.string ⟨f.1.toArray⟩, .string ⟨f.2.toArray⟩]) (off := 1) rfl w
  have h4 := fun w => run_part1 vagg_str (cs := #[.string ⟨g.1.toArray⟩, .string ⟨g.2.toArray⟩]) (off := 1) rfl w
  have e1 := fun w => eqStr_run (P := Tryd.prog) (t := 9) Tryd.underlying9 ⟨f.1.toArray⟩ ⟨g.1.toArray⟩ d w
  have e2 := fun w => eqStr_run (P := Tryd.prog) (t := 9) Tryd.underlying9 ⟨f.2.toArray⟩ ⟨g.2.toArray⟩ d w
  rw [Op.equalIn]
  simp [run_underlying Tryd.underlying45, h1, h2, h3, h4, e1, e2]
  have hs : ∀ a b : List UInt8, ((⟨a.toArray⟩ : ByteArray) == ⟨b.toArray⟩) = decide (a = b) := fun a b => by
    have : ((⟨a.toArray⟩ : ByteArray) == ⟨b.toArray⟩) = (a.toArray == b.toArray) := rfl
    rw [this, Bool.eq_iff_iff]; simp
  rw [hs, hs]
  obtain ⟨f1, f2⟩ := f
  obtain ⟨g1, g2⟩ := g
  by_cases c1 : f1 = g1 <;> by_cases c2 : f2 = g2 <;> simp [c1, c2]
theorem neqT_op {o : Oper} {ts : List VV} {H : Heap} {K : VV → Heap → Prop} {x y : Operand} {p : TypeId} {f g : PF} (ho : o.op = .binOp .neq 45 x y p) (hx : veval ts x = .ag [strV f.1, strV f.2]) (hy : veval ts y = .ag [strV g.1, strV g.2])
    (k : K (.sc (.bool (!(f == g)))) H) : GOp' Tryd.prog o ts H K :=
  GOp'.eqAg ho (.inr rfl) hx hy rfl rfl (by kernel_rfl) (fun w => eqT_run f g w) k
theorem same32_call (a b : List PF) (H : Heap) (hl : a.length ≤ 1000000) : VCall Tryd.prog 24 [.ro a.length (rowsT a), .ro b.length (rowsT b)] H (fun x K => x = booV (a == b) ∧ K = H) := by
  refine VCall.pure (by simp [show ∀ l, Nameless (.ro l.length (rowsT l)) from fun l => nameless_ro (rowsT_nameless l)]) (nameless_sc _) ?_
  refine VCall.go Tryd.func24 rfl ?_
  repeat' (first | with_reducible refine And.intro ?_ ?_ | ((with_reducible intro hc); (try simp only [zA, zB, zC, zD, zE, zF, zG, zH, zI, zJ, zK, zL, zM, zN, zO, zP, zQ, zR, zS, zT, zU, zV, zW] at hc); (first | (exact absurd rfl hc) | (exact absurd trivial hc) | (exfalso; omega) | skip)) | ((conv => whnf); first | with_reducible refine And.intro ?_ ?_ | refine ifB_intro ?_ ?_ | refine xA (by omega) ?_ | ((refine xB ?_); intro kw hk1 hk2) | refine xC (by omega) ?_ | refine xD ?_ | refine xE (by omega) ?_ | refine xF (by omega) ?_ | refine xG ?_ | refine xH ?_ | refine xI (by omega) ?_ | refine xJ (by omega) ?_ | (with_reducible refine stopA ?_) | refine Exists.intro _ (And.intro (by rfl) ?_) | refine GOp.via (by rfl) ?_ | (with_reducible first | refine stopO ?_ | refine stopE ?_ | refine stopD ?_ | refine stopW ?_ | refine stopG ?_ | refine stopC ?_ | refine stopR ?_)))
  · refine Done'.mk ?_
    have : (a == b) = false := by
      simp only [beq_eq_false_iff_ne, ne_eq]
      intro e
      subst e
      omega
    rw [this]
    rfl
  (refine GWP'.mk (GWP.loopB [] (fun (i : Nat) => i ≤ a.length ∧ (a == b) = (a.drop i == b.drop i)) (fun i => [(13, iV i)]) (fun i => []) 0 (fun i => a.length - i) 0 ⟨Nat.zero_le _, rfl⟩ ?_); (conv => whnf); refine And.intro ?_ ?_)
  · focus (refine KeptA.of [] rfl rfl (by repeat' (first | exact trivial | refine And.intro rfl ?_)) rfl ?_ ?_; all_goals (repeat' (first | exact trivial | (refine And.intro ?_ ?_) | (refine Exists.intro _ (And.intro rfl ?_)) | (refine RenO.opt ?_) | (refine RenO.toOpt ?_) | (refine RenO.cells ?_) | exact RenO.defs | exact RenL.nil | (refine RenL.cons ?_ ?_) | (first | fail | (with_reducible exact RenV.sc) | exact RenV.gsN | exact RenV.gsZ | exact RenV.gsL (by decide) | exact RenV.slL (by decide) | ((first | refine RenV.gsE (by (first | exact List.Mem.head _ | exact List.Mem.tail _ (List.Mem.head _) | exact List.Mem.tail _ (List.Mem.tail _ (List.Mem.head _)) | (simp; done))) ?_ | refine RenV.eq (scI_eq ?_) (nameless_sc _)); (first | rfl | omega | (simp only [List.length_append, List.length_cons, List.length_nil, List.length_map, List.length_take, List.length_drop] <;> omega) | (simp only <;> omega) | (simp <;> omega))) | exact RenV.undef) | (with_unfolding_all exact (rfl : (_ : VObj) = _)))))
  rintro i ⟨h1, h2⟩
  simp only at h1 h2 ⊢
  by_cases hil : i < a.length
  · obtain ⟨x, hx⟩ := list_at hil
    obtain ⟨y, hy⟩ := list_at (l := b) (i := i) (by omega)
    rw [drop_eq hx hy] at h2
    repeat' (first | with_reducible refine And.intro ?_ ?_ | ((with_reducible intro hc); (try simp only [zA, zB, zC, zD, zE, zF, zG, zH, zI, zJ, zK, zL, zM, zN, zO, zP, zQ, zR, zS, zT, zU, zV, zW] at hc); (first | (exact absurd rfl hc) | (exact absurd trivial hc) | (exfalso; omega) | skip)) | exact Is.mk rfl rfl | ((conv => whnf); first | with_reducible refine And.intro ?_ ?_ | with_reducible intro hx | exact Is.mk rfl rfl | (with_reducible first | apply Val.via | apply ValH.via) | refine ifB_intro ?_ ?_ | refine xA (by omega) ?_ | ((refine xB ?_); intro kw hk1 hk2) | refine xC (by omega) ?_ | refine xD ?_ | refine xE (by omega) ?_ | refine xF (by omega) ?_ | refine xG ?_ | refine xH ?_ | refine xI (by omega) ?_ | refine xJ (by omega) ?_ | (with_reducible refine stopA ?_) | refine Exists.intro _ (And.intro (by (first | exact vat_rowsT hx rfl | exact vat_rowsT hy rfl | rfl)) ?_) | refine GOp.drawn (by rfl) (by rfl) (Nat.le_of_ble_eq_true (by rfl)) (by rfl) | refine GOp.via (by rfl) ?_ | refine GWP.drawY mixed _ (by kernel_rfl) (by rfl) ?_ | (refine stopO (neqT_op rfl rfl rfl ?_)) | (with_reducible first | refine stopO ?_ | refine stopE ?_ | refine stopD ?_ | refine stopW ?_ | refine stopG ?_ | refine stopC ?_ | refine stopR ?_)))
    all_goals (first | omega | skip)
    · have hxy : (x == y) = false := by simpa using hc
      refine Done'.mk ?_
      rw [h2, hxy]
      rfl
    · have hxy : (x == y) = true := by simpa using hc
      rw [hxy, Bool.true_and] at h2
      focus (refine Done'.mk ⟨(i + 1), ⟨by omega, h2⟩, ?_, KeptA.of [] rfl rfl (by repeat' (first | exact trivial | refine And.intro rfl ?_)) rfl ?_ ?_⟩; (first | omega | (simp only; omega)); all_goals (repeat' (first | exact trivial | (refine And.intro ?_ ?_) | (refine Exists.intro _ (And.intro rfl ?_)) | (refine RenO.opt ?_) | (refine RenO.toOpt ?_) | (refine RenO.cells ?_) | exact RenO.defs | exact RenL.nil | (refine RenL.cons ?_ ?_) | (first | (exact RenV.eq (scI_eq (by omega)) (nameless_sc _)) | (with_reducible exact RenV.sc) | exact RenV.gsN | exact RenV.gsZ | exact RenV.gsL (by decide) | exact RenV.slL (by decide) | ((first | refine RenV.gsE (by (first | exact List.Mem.head _ | exact List.Mem.tail _ (List.Mem.head _) | exact List.Mem.tail _ (List.Mem.tail _ (List.Mem.head _)) | (simp; done))) ?_ | refine RenV.eq (scI_eq ?_) (nameless_sc _)); (first | rfl | omega | (simp only [List.length_append, List.length_cons, List.length_nil, List.length_map, List.length_take, List.length_drop] <;> omega) | (simp only <;> omega) | (simp <;> omega))) | exact RenV.undef) | (with_unfolding_all exact (rfl : (_ : VObj) = _)))))
  · repeat' (first | with_reducible refine And.intro ?_ ?_ | ((with_reducible intro hc); (try simp only [zA, zB, zC, zD, zE, zF, zG, zH, zI, zJ, zK, zL, zM, zN, zO, zP, zQ, zR, zS, zT, zU, zV, zW] at hc); (first | (exact absurd rfl hc) | (exact absurd trivial hc) | (exfalso; omega) | skip)) | ((conv => whnf); first | with_reducible refine And.intro ?_ ?_ | refine ifB_intro ?_ ?_ | refine xA (by omega) ?_ | ((refine xB ?_); intro kw hk1 hk2) | refine xC (by omega) ?_ | refine xD ?_ | refine xE (by omega) ?_ | refine xF (by omega) ?_ | refine xG ?_ | refine xH ?_ | refine xI (by omega) ?_ | refine xJ (by omega) ?_ | (with_reducible refine stopA ?_) | refine Exists.intro _ (And.intro (by rfl) ?_) | refine GOp.via (by rfl) ?_ | (with_reducible first | refine stopO ?_ | refine stopE ?_ | refine stopD ?_ | refine stopW ?_ | refine stopG ?_ | refine stopC ?_ | refine stopR ?_)))
    all_goals (first | omega | skip)
    refine Done'.mk ?_
    rw [h2, List.drop_eq_nil_of_le (by omega), List.drop_eq_nil_of_le (by omega)]
    rfl
end Go.Proofs.YtmmjgbdihgdekaaDoor

/- Drawn regions with several operations that change the heap, each behind the one before; the others hold at every heap there is. Over any program. -/
namespace Go.Proofs.YtmmjgbdihgdekaaDoor
open Go Go.RowKit
set_option linter.unusedSimpArgs false
set_option linter.unusedVariables false
/-- At each of the heaps. -/
def eachH (l : List Heap) (p : Heap → Prop) : Prop := List.rec True (fun h _ ih => And (p h) ih) l
theorem eachH_mem {p : Heap → Prop} : ∀ {l : List Heap}, eachH l p → ∀ h ∈ l, p h
  | [], _, h, hm => by simp at hm
  | a :: r, hp, h, hm => by
    obtain ⟨h1, h2⟩ := hp
    rcases List.mem_cons.1 hm with rfl | hm
    · exact h1
    · exact eachH_mem h2 h hm
/-- The events follow one another. -/
def chainE (ops : List Oper) : List Nat → Bool
  | [] => true
  | i :: r => chainE ops r && r.all fun j => Nat.blt i j && memN i (ancIn ops j [j])
/-- As wone2, save that bytes of a text may be rows that nobody writes. -/
def one3 (P : Program) (o : Oper) (ts : List VV) (H : Heap) (K : VV → Heap → Prop) : Prop := match o.op with
  | .convert _ _ x => match veval ts x with
    | .sc (.string _) => GOp P o ts H K
    | _ => wone2 P o ts H K
  | _ => wone2 P o ts H K
theorem one3_sound {P : Program} {o : Oper} {ts : List VV} {H : Heap} {K : VV → Heap → Prop} (h : one3 P o ts H K) : VOne P o ts H K := by
  unfold one3 at h
  split at h
  · split at h
    · exact gop_sound h
    · exact wone2_sound h
  · exact wone2_sound h
/-- The heaps that operation i may find: those behind the events that it waits for. -/
def heapsOf (ops : Array Oper) (Gs : List Heap) (E : List Nat) (i : Nat) : List Heap := Gs.drop (cnt (fun j => memN j E && memN j (ancIn ops.toList i [i])) i)
def eachW (ops : Array Oper) (Gs : List Heap) (E : List Nat) (i : Nat) (p : Heap → Prop) : Prop := forceNL (ancIn ops.toList i [i]) fun an => eachH (Gs.drop (cnt (fun j => memN j E && memN j an) i)) p
theorem eachW_eq (ops : Array Oper) (Gs : List Heap) (E : List Nat) (i : Nat) (p : Heap → Prop) : eachW ops Gs E i p = eachH (heapsOf ops Gs E i) p := by
  unfold eachW
  rw [forceNL_eq]
  rfl
section
variable (P : Program) (ops : Array Oper) (ts0 : List VV) (E : List Nat) (Gs : List Heap) (K : List VV → Heap → Prop)
def wdrawM (i : Nat) (l : List Oper) (vs : List VV) (Hs : List Heap) : Prop :=
  List.rec (motive := fun _ => Nat → List VV → List Heap → Prop) (fun i vs Hs => match Hs with
    | [H] => K vs H
    | _ => False) (fun o r ih i vs Hs => match memN i E with
    | true => match o.guard, Hs with
      | none, H :: H2 :: R => envE i o ops.toList vs ts0 (readsOf ops o) fun L => Val (fun v => one3 P o (frameT L ts0.length 0) H fun x K' => Is x v K' H2) (fun v => forceV v fun v' => snocE vs v' fun vs' => ih (i + 1) vs' (H2 :: R))
      | _, _ => False
    | false => match o.guard with
      | none => envE i o ops.toList vs ts0 (readsOf ops o) fun L => Val (fun v => eachW ops Gs E i fun Hx => one3 P o (frameT L ts0.length 0) Hx fun x K' => Is x v K' Hx) (fun v => forceV v fun v' => snocE vs v' fun vs' => ih (i + 1) vs' Hs)
      | some (j, want) => match waitsFor o.after.toList j with
        | true => match vs[j]? with
          | some (.sc (.bool b)) => ifB b
            (setE vs j (.sc (.bool true)) fun vs1 => match want with
              | true => envE i o ops.toList vs1 ts0 (readsOf ops o) fun L => Val (fun v => eachW ops Gs E i fun Hx => one3 P o (frameT L ts0.length 0) Hx fun x K' => Is x v K' Hx) (fun v => forceV v fun v' => snocE vs1 v' fun vs' => ih (i + 1) vs' Hs)
              | false => snocE vs1 (.tp []) fun vs' => ih (i + 1) vs' Hs)
            (setE vs j (.sc (.bool false)) fun vs1 => match want with
              | false => envE i o ops.toList vs1 ts0 (readsOf ops o) fun L => Val (fun v => eachW ops Gs E i fun Hx => one3 P o (frameT L ts0.length 0) Hx fun x K' => Is x v K' Hx) (fun v => forceV v fun v' => snocE vs1 v' fun vs' => ih (i + 1) vs' Hs)
              | true => snocE vs1 (.tp []) fun vs' => ih (i + 1) vs' Hs)
          | some (.tp _) => snocE vs (.tp []) fun vs' => ih (i + 1) vs' Hs
          | _ => False
        | false => False) l i vs Hs
theorem wdrawM_cons (i : Nat) (o : Oper) (r : List Oper) (vs : List VV) (Hs : List Heap) : wdrawM P ops ts0 E Gs K i (o :: r) vs Hs = (match memN i E with
    | true => match o.guard, Hs with
      | none, H :: H2 :: R => envE i o ops.toList vs ts0 (readsOf ops o) fun L => Val (fun v => one3 P o (frameT L ts0.length 0) H fun x K' => Is x v K' H2) (fun v => forceV v fun v' => snocE vs v' fun vs' => wdrawM P ops ts0 E Gs K (i + 1) r vs' (H2 :: R))
      | _, _ => False
    | false => match o.guard with
      | none => envE i o ops.toList vs ts0 (readsOf ops o) fun L => Val (fun v => eachW ops Gs E i fun Hx => one3 P o (frameT L ts0.length 0) Hx fun x K' => Is x v K' Hx) (fun v => forceV v fun v' => snocE vs v' fun vs' => wdrawM P ops ts0 E Gs K (i + 1) r vs' Hs)
      | some (j, want) => match waitsFor o.after.toList j with
        | true => match vs[j]? with
          | some (.sc (.bool b)) => ifB b
            (setE vs j (.sc (.bool true)) fun vs1 => match want with
              | true => envE i o ops.toList vs1 ts0 (readsOf ops o) fun L => Val (fun v => eachW ops Gs E i fun Hx => one3 P o (frameT L ts0.length 0) Hx fun x K' => Is x v K' Hx) (fun v => forceV v fun v' => snocE vs1 v' fun vs' => wdrawM P ops ts0 E Gs K (i + 1) r vs' Hs)
              | false => snocE vs1 (.tp []) fun vs' => wdrawM P ops ts0 E Gs K (i + 1) r vs' Hs)
            (setE vs j (.sc (.bool false)) fun vs1 => match want with
              | false => envE i o ops.toList vs1 ts0 (readsOf ops o) fun L => Val (fun v => eachW ops Gs E i fun Hx => one3 P o (frameT L ts0.length 0) Hx fun x K' => Is x v K' Hx) (fun v => forceV v fun v' => snocE vs1 v' fun vs' => wdrawM P ops ts0 E Gs K (i + 1) r vs' Hs)
              | true => snocE vs1 (.tp []) fun vs' => wdrawM P ops ts0 E Gs K (i + 1) r vs' Hs)
          | some (.tp _) => snocE vs (.tp []) fun vs' => wdrawM P ops ts0 E Gs K (i + 1) r vs' Hs
          | _ => False
        | false => False) := rfl
/-- So many events stand ahead of operation i. -/
def evB (i : Nat) : Nat := cnt (fun j => memN j E && Nat.blt j i) i
def MFact (V : List VV) (j : Nat) (o : Oper) : Prop := ∃ v, V[j]? = some v ∧ ((memN j E = true ∧ o.guard = none ∧ ∃ H H2, Gs[evB E j]? = some H ∧ Gs[evB E j + 1]? = some H2 ∧ VOne P o (tFor j o ops.toList 0 V ts0) H (fun x K' => x = v ∧ K' = H2)) ∨
  (memN j E = false ∧ ((vwanted ops o (tFor j o ops.toList 0 V ts0) = some false ∧ v = .tp []) ∨ (vwanted ops o (tFor j o ops.toList 0 V ts0) = some true ∧ ∀ Hx ∈ heapsOf ops Gs E j, VOne P o (tFor j o ops.toList 0 V ts0) Hx (fun x K' => x = v ∧ K' = Hx)))))
theorem evB_succ (i : Nat) : evB E (i + 1) = evB E i + (match memN i E with | true => 1 | false => 0) := by
  unfold evB
  rw [cnt]
  have h1 : cnt (fun j => memN j E && Nat.blt j (i + 1)) i = cnt (fun j => memN j E && Nat.blt j i) i := cnt_congr fun j hj => by
    rw [blt_iff.2 hj, blt_iff.2 (Nat.lt_succ_of_lt hj)]
  rw [h1, blt_iff.2 (Nat.lt_succ_self i), Bool.and_true]
  cases memN i E <;> rfl
theorem wdrawM_sound (hback : ∀ (i : Nat) (o : Oper), ops.toList[i]? = some o → ∀ e ∈ o.after.toList, bindsA e = true → e.on < i) (hnd : (dstsOf ops.toList).Nodup) (hbd : ∀ (i : Nat) (o : Oper), ops.toList[i]? = some o → ∀ d, o.dst = some d → d < ts0.length) (hgd : ∀ (i : Nat) (o : Oper) (j : Nat) (w : Bool), ops.toList[i]? = some o → o.guard = some (j, w) → ((ops[j]?).bind (fun x : Oper => x.dst)).isSome = true) : ∀ (r : List Oper) (i : Nat) (vs : List VV) (Hs : List Heap), ops.toList.drop i = r → vs.length = i → Gs.drop (evB E i) = Hs → wdrawM P ops ts0 E Gs K i r vs Hs →
    ∃ (V : List VV), (∃ a, V = vs ++ a) ∧ V.length = max i ops.size ∧ (∃ H, Gs.drop (evB E (max i ops.size)) = [H] ∧ K V H) ∧ ∀ j o, i ≤ j → ops.toList[j]? = some o → MFact P ops ts0 E Gs V j o := by
  intro r
  induction r with
  | nil =>
    intro i vs Hs hd hv hg h
    have hle : ops.size ≤ i := by have := congrArg List.length hd; simp at this; omega
    rw [Nat.max_eq_left hle]
    refine ⟨vs, ⟨[], by simp⟩, hv, ?_, fun j o hj ho => ?_⟩
    · match Hs, h with
      | [H], h => exact ⟨H, hg, h⟩
    · have := (List.getElem?_eq_some_iff.1 ho).1
      simp at this
      omega
  | cons o r ih =>
    intro i vs Hs hd hv hg h
    have ho : ops.toList[i]? = some o := by
      have := congrArg (fun l => l[0]?) hd
      simpa using this
    have hil : i < ops.size := by have := (List.getElem?_eq_some_iff.1 ho).1; simpa using this
    have hd' : ops.toList.drop (i + 1) = r := by rw [← List.drop_drop, hd]; rfl
    have hmx : max (i + 1) ops.size = max i ops.size := by omega
    rw [wdrawM_cons] at h
    have hT : ∀ {V a : List VV}, V = vs ++ a → tFor i o ops.toList 0 vs ts0 = tFor i o ops.toList 0 V ts0 := fun e => tfor_more ops ts0 hback ho hv e
    have step : ∀ (v : VV) (Hs' : List Heap), Gs.drop (evB E (i + 1)) = Hs' → wdrawM P ops ts0 E Gs K (i + 1) r (vs ++ [v]) Hs' → (∀ V, tFor i o ops.toList 0 vs ts0 = tFor i o ops.toList 0 V ts0 → V[i]? = some v → MFact P ops ts0 E Gs V i o) →
        ∃ (V : List VV), (∃ a, V = vs ++ a) ∧ V.length = max i ops.size ∧ (∃ H, Gs.drop (evB E (max i ops.size)) = [H] ∧ K V H) ∧ ∀ j o, i ≤ j → ops.toList[j]? = some o → MFact P ops ts0 E Gs V j o := by
      intro v Hs' hg' hw hf
      obtain ⟨V, ⟨a, ha⟩, hl, hk, hq⟩ := ih (i + 1) (vs ++ [v]) Hs' hd' (by simp [hv]) hg' hw
      rw [hmx] at hl hk
      refine ⟨V, ⟨v :: a, by rw [ha]; simp⟩, hl, hk, fun j x hj hx => ?_⟩
      by_cases e : j = i
      · subst e
        rw [ho] at hx; injection hx with hx; subst hx
        exact hf V (hT (a := v :: a) (by rw [ha]; simp)) (by rw [ha, List.append_assoc, List.getElem?_append_right (by omega)]; simp [hv])
      · exact hq j x (by omega) hx
    have hev := evB_succ E i
    cases hmi : memN i E with
    | true =>
      rw [hmi] at h hev
      simp only at h hev
      split at h
      · rename_i H H2 R hgn
        rw [envE_eq] at h
        obtain ⟨v, h1, h2⟩ := h.out
        rw [forceV_eq, snocE_eq] at h2
        have g0 : Gs[evB E i]? = some H := by
          have := congrArg (fun l => l[0]?) hg
          simpa using this
        have g1 : Gs[evB E i + 1]? = some H2 := by
          have := congrArg (fun l => l[1]?) hg
          simpa using this
        refine step v (H2 :: R) (by rw [hev, ← List.drop_drop, hg]; rfl) h2 fun V e hv1 => ⟨v, hv1, .inl ⟨hmi, hgn, H, H2, g0, g1, ?_⟩⟩
        rw [← e]
        exact VOne.less (env_less ops ts0 hnd i o vs _) ((one3_sound h1).mono fun x K' q => ⟨q.val, q.heap⟩)
      · exact h.elim
    | false =>
      rw [hmi] at h hev
      simp only [Nat.add_zero] at h hev
      have hg' : Gs.drop (evB E (i + 1)) = Hs := by rw [hev]; exact hg
      have go : ∀ (hw : vwanted ops o (tFor i o ops.toList 0 vs ts0) = some true), (envE i o ops.toList vs ts0 (readsOf ops o) fun L => Val (fun v => eachW ops Gs E i fun Hx => one3 P o (frameT L ts0.length 0) Hx fun x K' => Is x v K' Hx) (fun v => forceV v fun v' => snocE vs v' fun vs' => wdrawM P ops ts0 E Gs K (i + 1) r vs' Hs)) →
          ∃ (V : List VV), (∃ a, V = vs ++ a) ∧ V.length = max i ops.size ∧ (∃ H, Gs.drop (evB E (max i ops.size)) = [H] ∧ K V H) ∧ ∀ j o, i ≤ j → ops.toList[j]? = some o → MFact P ops ts0 E Gs V j o := by
        intro hw hg2
        rw [envE_eq] at hg2
        obtain ⟨v, h1, h2⟩ := hg2.out
        rw [forceV_eq, snocE_eq] at h2
        refine step v Hs hg' h2 fun V e hv1 => ⟨v, hv1, .inr ⟨hmi, .inr ⟨e ▸ hw, fun Hx hx => ?_⟩⟩⟩
        rw [← e]
        exact VOne.less (env_less ops ts0 hnd i o vs _) ((one3_sound (eachH_mem ((eachW_eq _ _ _ _ _).mp h1) Hx hx)).mono fun x K' q => ⟨q.val, q.heap⟩)
      have skip : ∀ (hw : vwanted ops o (tFor i o ops.toList 0 vs ts0) = some false), (snocE vs (.tp []) fun vs' => wdrawM P ops ts0 E Gs K (i + 1) r vs' Hs) →
          ∃ (V : List VV), (∃ a, V = vs ++ a) ∧ V.length = max i ops.size ∧ (∃ H, Gs.drop (evB E (max i ops.size)) = [H] ∧ K V H) ∧ ∀ j o, i ≤ j → ops.toList[j]? = some o → MFact P ops ts0 E Gs V j o := by
        intro hw hg2
        rw [snocE_eq] at hg2
        exact step _ Hs hg' hg2 fun V e hv1 => ⟨_, hv1, .inr ⟨hmi, .inl ⟨e ▸ hw, rfl⟩⟩⟩
      split at h
      · rename_i hg
        exact go (by simp [vwanted, hg]) h
      · rename_i j want hg
        split at h
        case h_2 => exact h.elim
        rename_i hwt
        have hgd' := hgd i o j want ho hg
        have hval : ∀ u, vs[j]? = some u → ∃ d, (ops[j]?).bind (·.dst) = some d ∧ (tFor i o ops.toList 0 vs ts0)[d]? = some u := fun u hu => by
          cases hd2 : (ops[j]?).bind (·.dst) with
          | none => rw [hd2] at hgd'; cases hgd'
          | some d =>
            refine ⟨d, rfl, ?_⟩
            cases hx : ops[j]? with
            | none => rw [hx] at hd2; cases hd2
            | some x =>
              rw [hx] at hd2
              have hx' : ops.toList[j]? = some x := by simpa using hx
              have hxd : x.dst = some d := hd2
              have := (tFor_get i o ops.toList 0 vs ts0 hnd).2.2 j d x hx' hxd (hbd j x hx' d hxd)
              rw [this, Nat.zero_add, hwt, hu]
              rfl
        split at h
        · rename_i b hb3
          obtain ⟨d, e1, e2⟩ := hval _ hb3
          simp only [setE_eq] at h
          cases b with
          | true =>
            simp only [ifB] at h
            rw [set_same hb3] at h
            cases want with
            | true => exact go (by simp [vwanted, hg, e1, e2]) h
            | false => exact skip (by simp [vwanted, hg, e1, e2]) h
          | false =>
            simp only [ifB] at h
            rw [set_same hb3] at h
            cases want with
            | false => exact go (by simp [vwanted, hg, e1, e2]) h
            | true => exact skip (by simp [vwanted, hg, e1, e2]) h
        · rename_i hb3
          obtain ⟨d, e1, e2⟩ := hval _ hb3
          exact skip (by simp [vwanted, hg, e1, e2]) h
        · exact h.elim
end
theorem cnt_cutM (f : Nat → Bool) (i : Nat) : ∀ {n : Nat}, i ≤ n → cnt (fun j => f j && Nat.blt j i) n = cnt (fun j => f j && Nat.blt j i) i
  | 0, h => by
    have : i = 0 := by omega
    subst this; rfl
  | n + 1, h => by
    by_cases e : i = n + 1
    · rw [e]
    · rw [cnt, cnt_cutM f i (show i ≤ n by omega)]
      have : Nat.blt n i = false := by
        cases hb : Nat.blt n i
        · rfl
        · have := blt_iff.1 hb; omega
      rw [this, Bool.and_false]; rfl
theorem chainE_sound {ops : List Oper} : ∀ {E : List Nat}, chainE ops E = true → ∀ i ∈ E, ∀ j ∈ E, j < i → j ∈ ancIn ops i [i]
  | [], _, i, hi, _, _, _ => by simp at hi
  | a :: r, h, i, hi, j, hj, hlt => by
    unfold chainE at h
    simp only [Bool.and_eq_true] at h
    have h2 := fun x hx => List.all_eq_true.1 h.2 x hx
    rcases List.mem_cons.1 hi with e1 | hi2
    · subst e1
      rcases List.mem_cons.1 hj with e2 | hj2
      · omega
      · have := h2 j hj2
        simp only [Bool.and_eq_true] at this
        have := blt_iff.1 this.1
        omega
    · rcases List.mem_cons.1 hj with e2 | hj2
      · subst e2
        have := h2 i hi2
        simp only [Bool.and_eq_true] at this
        exact memN_iff.1 this.2
      · exact chainE_sound h.1 i hi2 j hj2 hlt
theorem GWP.drawM {P : Program} {r : Option Nat} {id : Nat} {ops : Array Oper} {Q : Exit → VSt → Prop} {s : VSt} (hm : P.follows .mixedOrders = true) (n : Nat) (E : List Nat) (f : Heap → List Heap) (hb : (backN 0 ops.toList && nodupN (dstsOf ops.toList) && fitN n ops && chainE ops.toList E) = true) (hlen : s.tmps.length = n)
    (h : match s with | ⟨ts0, H, md⟩ => wdrawM P ops ts0 E (H :: f H) (fun V H' => tAllE ops.toList V ts0 fun ts => Q .normal ⟨ts, H', md⟩) 0 ops.toList [] (H :: f H)) : GWP P r (.region id ops true) Q s := ⟨by
  obtain ⟨ts0, H, md⟩ := s
  simp only [Bool.and_eq_true] at hb
  obtain ⟨⟨⟨hb1, hb2⟩, hb3⟩, hb4⟩ := hb
  have hback : ∀ i o, ops.toList[i]? = some o → ∀ e ∈ o.after.toList, bindsA e = true → e.on < i := fun i o ho e he hbe => by
    have := backN_iff hb1 i o ho e he hbe
    omega
  have hlen : ts0.length = n := hlen
  have hfit : ∀ (i : Nat) (o : Oper), ops.toList[i]? = some o → (∀ d, o.dst = some d → d < ts0.length) ∧ ∀ (j : Nat) (w : Bool), o.guard = some (j, w) → ((ops[j]?).bind (fun x : Oper => x.dst)).isSome = true := fun i o ho => by
    have := List.all_eq_true.1 hb3 o (List.mem_of_getElem? ho)
    simp only [Bool.and_eq_true] at this
    refine ⟨fun d hd => ?_, fun j w hg => ?_⟩
    · have h1 := this.1
      rw [hd] at h1
      rw [hlen]
      exact Nat.le_of_ble_eq_true h1
    · have h1 := this.2
      rw [hg] at h1
      exact h1
  have h : wdrawM P ops ts0 E (H :: f H) (fun V H' => tAllE ops.toList V ts0 fun ts => Q .normal ⟨ts, H', md⟩) 0 ops.toList [] (H :: f H) := h
  obtain ⟨V, _, hl, ⟨H', hd, hk⟩, hq⟩ := wdrawM_sound P ops ts0 E (H :: f H) _ hback (nodup_of hb2) (fun i o ho => (hfit i o ho).1) (fun i o j w ho => (hfit i o ho).2 j w) ops.toList 0 [] (H :: f H) rfl rfl rfl h
  rw [tAllE_eq] at hk
  rw [Nat.zero_max] at hl hd
  have hlast : (H :: f H)[evB E ops.size]? = some H' := by
    have := congrArg (fun l => l[0]?) hd
    simpa using this
  have hsz : evB E ops.size < (H :: f H).length := (List.getElem?_eq_some_iff.1 hlast).1
  have hall : cnt (fun j => memN j E && Nat.blt j ops.size) ops.size = evB E ops.size := rfl
  have hcut : ∀ i, i < ops.size → cnt (fun j => (memN j E && Nat.blt j ops.size) && Nat.blt j i) ops.size = evB E i := fun i hi => by
    unfold evB
    rw [← cnt_cutM (fun j => memN j E) i (n := ops.size) (by omega)]
    exact cnt_congr fun j hj => by rw [blt_iff.2 hj, Bool.and_true]
  have hgE : ∀ i o, ops.toList[i]? = some o → i < ops.size := fun i o ho => by
    have := (List.getElem?_eq_some_iff.1 ho).1
    simpa using this
  refine VWP.draw (vals := V) (G := fun k => ((H :: f H)[k]?).getD H) (ev := fun j => memN j E && Nat.blt j ops.size) hm
    ⟨by simpa using hl.symm, nodup_of hb2, hback, fun i j hi h1 h2 hji => ?_, fun i o ho hw => ?_, fun i o ho => ?_, fun i o v ho hw hev hv => ?_, fun i o v p ho hw hev hv hA hD => ?_⟩ ?_ ?_
  · simp only [Bool.and_eq_true] at h1 h2
    have := chainE_sound hb4 i (memN_iff.1 h1.1) j (memN_iff.1 h2.1) hji
    rcases ancIn_sound i [i] (fun s hs => .inl (by simpa using hs)) j this with e | e
    · omega
    · exact e
  · obtain ⟨v, h1, h2⟩ := hq i o (Nat.zero_le _) ho
    rcases h2 with ⟨_, g2, _⟩ | ⟨hm2, ⟨_, rfl⟩ | ⟨h2, _⟩⟩
    · simp [vwanted, g2] at hw
    · exact ⟨h1, by simp [hm2]⟩
    · rw [hw] at h2; simp at h2
  · obtain ⟨v, h1, h2⟩ := hq i o (Nat.zero_le _) ho
    rcases h2 with ⟨_, g2, _⟩ | ⟨hm2, ⟨h2, _⟩ | ⟨h2, _⟩⟩
    · simp [vwanted, g2]
    · rw [h2]; simp
    · rw [h2]; simp
  · obtain ⟨u, h1, h2⟩ := hq i o (Nat.zero_le _) ho
    rw [hv] at h1; injection h1 with h1; subst h1
    rw [hcut i (hgE i o ho)]
    simp only [Bool.and_eq_true] at hev
    rcases h2 with ⟨_, g2, A, B, e1, e2, q⟩ | ⟨hm2, _⟩
    · simp only [e1, e2, Option.getD_some]
      exact q
    · rw [hm2] at hev; simp at hev
  · obtain ⟨u, h1, h2⟩ := hq i o (Nat.zero_le _) ho
    rw [hv] at h1; injection h1 with h1; subst h1
    have hne : memN i E = false := by
      rw [blt_iff.2 (hgE i o ho), Bool.and_true] at hev
      exact hev
    have hp := hD (fun _ => false) fun j hj => by cases hj
    rw [cnt_false, hall] at hp
    have hq2 := hA (fun j => (memN j E && memN j (ancIn ops.toList i [i])) && Nat.blt j i) fun j hj => by
      simp only [Bool.and_eq_true] at hj
      have hji := blt_iff.1 hj.2
      have hio := hgE i o ho
      refine ⟨by simp only [Bool.and_eq_true]; exact ⟨hj.1.1, blt_iff.2 (by omega)⟩, ?_⟩
      rcases ancIn_sound i [i] (fun s hs => .inl (by simpa using hs)) j (memN_iff.1 hj.1.2) with e | e
      · omega
      · exact e
    have hio := hgE i o ho
    rw [cnt_cutM (fun j => memN j E && memN j (ancIn ops.toList i [i])) i (n := ops.size) (by omega)] at hq2
    have hq3 : cnt (fun j => (memN j E && memN j (ancIn ops.toList i [i])) && Nat.blt j i) i = cnt (fun j => memN j E && memN j (ancIn ops.toList i [i])) i := cnt_congr fun j hj => by rw [blt_iff.2 hj, Bool.and_true]
    rw [hq3] at hq2
    rcases h2 with ⟨hm2, _⟩ | ⟨_, ⟨h2, _⟩ | ⟨_, q⟩⟩
    · rw [hne] at hm2; cases hm2
    · rw [hw] at h2; simp at h2
    · have hlt : p < (H :: f H).length := by omega
      rw [List.getElem?_eq_getElem hlt]
      refine q _ ?_
      unfold heapsOf
      refine List.mem_of_getElem? (i := p - cnt (fun j => memN j E && memN j (ancIn ops.toList i [i])) i) ?_
      rw [List.getElem?_drop, Nat.add_sub_cancel' hq2, List.getElem?_eq_getElem hlt]
      rfl
  · rfl
  · rw [hall, hlast]
    exact hk⟩
end Go.Proofs.YtmmjgbdihgdekaaDoor

/- A form's text, walked. -/
namespace Go.Proofs.YtmmjgbdihgdekaaDoor
open Go Go.RowKit
set_option linter.unusedSimpArgs false
set_option linter.unusedVariables false
set_option maxRecDepth 100000
set_option maxHeartbeats 16000000
end Go.Proofs.YtmmjgbdihgdekaaDoor

