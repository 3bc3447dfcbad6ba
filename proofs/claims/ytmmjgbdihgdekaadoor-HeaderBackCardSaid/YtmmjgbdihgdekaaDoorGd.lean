import Derived.Test.YtmmjgbdihgdekaaDoorG6
import Derived.Test.YtmmjgbdihgdekaaDoorG4
/- Fields that make a header, plain: the error of the first that may not be one, and their text, parsed. -/
namespace Go.Proofs.YtmmjgbdihgdekaaDoor
open Go Go.RowKit
set_option linter.unusedSimpArgs false
set_option linter.unusedVariables false
/-- The error of the first field that may not be one, behind so many. -/
def ofGo : List HF → Nat → Nat
  | [], _ => 0
  | f :: r, n => if hwrong f n = 0 then ofGo r (n + 1) else hwrong f n
theorem ofGo_at {l : List HF} {i : Nat} {f : HF} (h : l[i]? = some f) : ofGo (l.drop i) i = if hwrong f i = 0 then ofGo (l.drop (i + 1)) (i + 1) else hwrong f i := by
  obtain ⟨hi, e⟩ := List.getElem?_eq_some_iff.1 h
  rw [List.drop_eq_getElem_cons hi, e]
  rfl
theorem hwrong_ok {f : HF} {n : Nat} (h : hwrong f n = 0) : tokenB f.1 = true ∧ 13 ∉ f.2 ∧ 10 ∉ f.2 ∧ trimB f.2 = f.2 := by
  unfold hwrong at h
  split at h
  · cases h
  · rename_i hc
    simp only [Bool.or_eq_true, Bool.not_eq_true', not_or, Bool.not_eq_false, Bool.not_eq_true, beq_iff_eq, List.contains_eq_mem, decide_eq_false_iff_not] at hc
    obtain ⟨⟨h1, h2, h3⟩, h4⟩ := hc
    exact ⟨h1, h2, h3, h4⟩
theorem token_no {l : List UInt8} (h : tokenB l = true) {c : UInt8} (hc : tokB c = false) : c ∉ l := fun hm => by
  unfold tokenB at h
  rw [Bool.and_eq_true, List.all_eq_true] at h
  rw [h.1 c hm] at hc
  cases hc
theorem trimB_blank {v : List UInt8} (h : trimB v = v) : trimB (32 :: v) = v := by
  have hl : (trR v).length ≤ v.length := by
    have := (List.dropWhile_sublist blankB (l := v.reverse)).length_le
    unfold trR
    simpa using this
  have hl2 : (trL (trR v)).length ≤ (trR v).length := (List.dropWhile_sublist blankB (l := trR v)).length_le
  have h' : trL (trR v) = v := h
  have hsub : (trR v).Sublist v := by
    have := (List.dropWhile_sublist blankB (l := v.reverse)).reverse
    rwa [List.reverse_reverse] at this
  have hR : trR v = v := hsub.eq_of_length (by rw [h'] at hl2; omega)
  have hL : trL v = v := by rw [hR] at h'; exact h'
  unfold trimB
  have hR2 : v ≠ [] → trR (32 :: v) = 32 :: v := fun hn => by
    have hr : v.reverse.dropWhile blankB = v.reverse := by
      have := congrArg List.reverse hR
      unfold trR at this
      rwa [List.reverse_reverse] at this
    unfold trR
    rw [List.reverse_cons]
    cases hv : v.reverse with
    | nil => exact absurd (List.reverse_eq_nil_iff.1 hv) hn
    | cons d w =>
      rw [hv] at hr
      have hd : blankB d = false := by
        cases hb : blankB d with
        | false => rfl
        | true =>
          rw [List.dropWhile_cons, if_pos hb] at hr
          have := (List.dropWhile_sublist blankB (l := w)).length_le
          rw [hr] at this
          simp at this
          omega
      rw [List.cons_append, List.dropWhile_cons, if_neg (by rw [hd]; simp), ← List.cons_append, List.reverse_append, ← hv, List.reverse_reverse]
      rfl
  cases v with
  | nil => decide
  | cons c r =>
    rw [hR2 (by simp)]
    show (32 :: c :: r).dropWhile blankB = _
    rw [List.dropWhile_cons, if_pos (by decide)]
    exact hL
theorem cutB_at {a r : List UInt8} {c : UInt8} (h : c ∉ a) : cutB (a ++ c :: r) c = (a, r, true) := by
  have hi : (a ++ c :: r).idxOf c = a.length := by
    rw [List.idxOf_append, if_neg h, List.idxOf_cons_self, Nat.zero_add]
  unfold cutB
  rw [if_pos (by simp), hi, List.take_left, ← List.drop_drop, List.drop_left]
  rfl
/-- The line of a field. -/
theorem field_line {f : HF} {n : Nat} (h : hwrong f n = 0) : trimCR (f.1 ++ [58, 32] ++ f.2 ++ [13]) = f.1 ++ [58, 32] ++ f.2 ∧ hfield (f.1 ++ [58, 32] ++ f.2) = f ∧ herr (f.1 ++ [58, 32] ++ f.2) n = 0 ∧ 10 ∉ f.1 ++ [58, 32] ++ f.2 ++ [13] := by
  obtain ⟨h1, h2, h3, h4⟩ := hwrong_ok h
  have h58 : (58 : UInt8) ∉ f.1 := token_no h1 (by decide)
  have h10 : (10 : UInt8) ∉ f.1 := token_no h1 (by decide)
  have hc : cutB (f.1 ++ [58, 32] ++ f.2) 58 = (f.1, 32 :: f.2, true) := by
    rw [List.append_assoc]
    exact cutB_at h58
  have hf : hfield (f.1 ++ [58, 32] ++ f.2) = f := by
    unfold hfield
    rw [hc]
    show (f.1, trimB (32 :: f.2)) = f
    rw [trimB_blank h4]
  refine ⟨?_, hf, ?_, ?_⟩
  · unfold trimCR
    rw [if_pos List.getLast?_concat, List.dropLast_concat]
  · unfold herr
    rw [hf, hc]
    exact h
  · simp only [List.mem_append, List.mem_cons, List.not_mem_nil, or_false, not_or]
    exact ⟨⟨⟨h10, by decide, by decide⟩, h3⟩, by decide⟩
theorem hgo_txts (body : List UInt8) : ∀ (r acc : List HF), ofGo r acc.length = 0 → hgo (txtsF r ++ [13, 10] ++ body) [] acc = .ok (acc ++ r) body
  | [], acc, _ => by
    show hgo ([13] ++ 10 :: body) [] acc = _
    rw [hgo_line _ _ _ _ (by decide), List.append_nil]
    rfl
  | f :: r, acc, h => by
    have h0 : hwrong f acc.length = 0 := by
      unfold ofGo at h
      split at h
      · assumption
      · rename_i hn; exact absurd h hn
    have h1 : ofGo r (acc.length + 1) = 0 := by
      unfold ofGo at h
      rwa [if_pos h0] at h
    obtain ⟨e1, e2, e3, e4⟩ := field_line h0
    have e : txtsF (f :: r) ++ [13, 10] ++ body = (f.1 ++ [58, 32] ++ f.2 ++ [13]) ++ 10 :: (txtsF r ++ [13, 10] ++ body) := by
      show txtF f ++ txtsF r ++ [13, 10] ++ body = _
      unfold txtF
      simp
    rw [e, hgo_line _ _ _ _ e4, List.nil_append]
    unfold hstep
    rw [e1, if_neg (by simp), if_pos e3, e2]
    show hgo _ [] (acc ++ [f]) = _
    rw [hgo_txts body r (acc ++ [f]) (by rw [List.length_append]; exact h1), List.append_assoc]
    rfl
theorem hparse_txt {l : List HF} {body : List UInt8} (h : ofGo l 0 = 0) : hparse (txtH l ++ body) = .ok l body := by
  have := hgo_txts body l [] h
  unfold txtH
  exact this
end Go.Proofs.YtmmjgbdihgdekaaDoor

/- header.Of, and a header's text as a slice of its own, walked. -/
namespace Go.Proofs.YtmmjgbdihgdekaaDoor
open Go Go.RowKit
set_option linter.unusedSimpArgs false
set_option linter.unusedVariables false
set_option maxRecDepth 100000
set_option maxHeartbeats 16000000
theorem GOp.drawnF {o : Oper} {ts : List VV} {H : Heap} {i : Nat} {a b : List UInt8} (ho : o.op = .buildSlice 74 1 #[(0, .tmp i)]) (hx : ts[i]? = some (.ag [roB a, roB b])) (ha : (ts.set i .junk).all scB = true) :
    GOp Tryd.prog o ts H (fun x K' => Is x (.ro 1 [roB a, roB b]) K' H) := ⟨by
  have hn2 : ∀ v ∈ [roB a, roB b], Nameless v := by simp [nameless_roB]
  have hv : vop Tryd.prog o ts ⟨[], 0⟩ = some (.sl 0 0 1 (some 1) 2, ⟨[(0, .cells true [roB a, roB b])], 1⟩) := by
    have hz : vsize Tryd.prog 97 = some 2 := by kernel_rfl
    have hl : vzero Tryd.prog 97 = some [.sc (.slice none 0 0), .sc (.slice none 0 0)] := by kernel_rfl
    have he : veval ts (.tmp i) = .ag [roB a, roB b] := by simp only [veval, hx, Option.getD_some]
    have h1 : cellsOf (.ag [roB a, roB b]) = some [roB a, roB b] := rfl
    simp only [vop, ho, vbuildSlice, Tryd.underlying74, hz, hl, List.map_cons, List.map_nil, he, vfill, h1]
    rfl
  have hn : ∀ v ∈ ts, Nameless v := fun v hv => by
    obtain ⟨j, hj, e⟩ := List.mem_iff_getElem.1 hv
    by_cases hji : j = i
    · subst hji
      rw [List.getElem?_eq_getElem hj, e] at hx
      injection hx with hx
      subst hx
      exact nameless_ag hn2
    · refine scB_nameless (List.all_eq_true.1 ha v ?_)
      refine List.mem_iff_getElem.2 ⟨j, by simpa using hj, ?_⟩
      rw [List.getElem_set_ne (fun h => hji h.symm)]
      exact e
  refine (VOne.frozen (u := .ro 1 [roB a, roB b]) hn hv ?_).mono fun x K' e => ⟨e.1, e.2⟩
  exact Frz.sl (K := ⟨[(0, .cells true [roB a, roB b])], 1⟩) (b := 0) (o := 0) (n := 1) (z := 2) (c := some 1) rfl (by simp) hn2⟩
/-- What Of hands back. -/
def ofV' (l : List HF) : VV := if ofGo l 0 = 0 then .tp [hdrV l, iV 0] else .tp [hdrV [], iV (ofGo l 0)]
theorem of_call (hca : ∀ (x : List UInt8) (H : Heap), x.length ≤ 10000 → VCall Tryd.prog 139 [roB x, strV [13, 10]] H (fun v K => v = booV (x.contains 13 || x.contains 10) ∧ K = H)) (l : List HF) (hl : l.length ≤ 2000) (hf : ∀ f ∈ l, f.1.length ≤ 10000 ∧ f.2.length ≤ 10000) (H : Heap) : VCall Tryd.prog 56 [.ro l.length (rowsF l)] H (fun v K => v = ofV' l ∧ K = H) := by
  refine VCall.frozen (Q := fun v K => Frz K v (ofV' l)) (by simp [show Nameless (.ro l.length (rowsF l)) from nameless_ro (rowsF_nameless l)]) ?_ (fun v K h => h)
  refine VCall.go Tryd.func56 rfl ?_
  repeat' (first | with_reducible refine And.intro ?_ ?_ | ((with_reducible intro hc); (try simp only [zA, zB, zC, zD, zE, zF, zG, zH, zI, zJ, zK, zL, zM, zN, zO, zP, zQ, zR, zS, zT, zU, zV, zW] at hc); (first | (exact absurd rfl hc) | (exact absurd trivial hc) | (exfalso; omega) | skip)) | exact Is.mk rfl rfl | ((conv => whnf); first | with_reducible refine And.intro ?_ ?_ | with_reducible intro hx | exact Is.mk rfl rfl | (with_reducible first | apply Val.via | apply ValH.via) | refine ifB_intro ?_ ?_ | refine xA (by omega) ?_ | ((refine xB ?_); intro kw hk1 hk2) | refine xC (by omega) ?_ | refine xD ?_ | refine xE (by omega) ?_ | refine xF (by omega) ?_ | refine xG ?_ | refine xH ?_ | refine xI (by omega) ?_ | refine xJ (by omega) ?_ | (with_reducible refine stopA ?_) | refine Exists.intro _ (And.intro (by (first | exact vat_of rfl rfl rfl | rfl)) ?_) | refine GOp.drawn (by rfl) (by rfl) (Nat.le_of_ble_eq_true (by rfl)) (by rfl) | refine GOp.via (by rfl) ?_ | refine GWP.drawY mixed _ (by kernel_rfl) (by rfl) ?_ | fail | (with_reducible first | refine stopO ?_ | refine stopE ?_ | refine stopD ?_ | refine stopW ?_ | refine stopG ?_ | refine stopC ?_ | refine stopR ?_)))
  (all_goals (first | omega | (rw [List.length_map]; done) | (rw [List.length_map]; omega) | skip))
  (refine GWP'.mk (GWP.loopB [1] (fun (s : List HF × Nat) => s.2 ≤ l.length ∧ s.1 = l.take s.2 ∧ ofGo l 0 = ofGo (l.drop s.2) s.2) (fun s => [(10, iV s.2)]) (fun s => [(1, .cells true [.gs 2 s.1.length 2]), (2, .opt (rowsF s.1))]) 3 (fun s => l.length - s.2) ([], 0) ⟨Nat.zero_le _, rfl, rfl⟩ ?_); (conv => whnf); refine And.intro ?_ ?_)
  · focus (refine KeptA.of [] rfl rfl (by repeat' (first | exact trivial | refine And.intro rfl ?_)) rfl ?_ ?_; all_goals (repeat' (first | exact trivial | (refine And.intro ?_ ?_) | (refine Exists.intro _ (And.intro rfl ?_)) | (refine RenO.opt ?_) | (refine RenO.toOpt ?_) | (refine RenO.cells ?_) | exact RenO.defs | exact RenL.nil | (refine RenL.cons ?_ ?_) | (first | fail | (with_reducible exact RenV.sc) | exact RenV.gsN | exact RenV.gsZ | exact RenV.gsL (by decide) | exact RenV.slL (by decide) | ((first | refine RenV.gsE (by (first | exact List.Mem.head _ | exact List.Mem.tail _ (List.Mem.head _) | exact List.Mem.tail _ (List.Mem.tail _ (List.Mem.head _)) | (simp; done))) ?_ | refine RenV.eq (scI_eq ?_) (nameless_sc _)); (first | rfl | omega | (simp only [List.length_append, List.length_cons, List.length_nil, List.length_map, List.length_take, List.length_drop] <;> omega) | (simp only <;> omega) | (simp <;> omega))) | exact RenV.undef) | (with_unfolding_all exact (rfl : (_ : VObj) = _)))))
  rintro ⟨acc, i⟩ ⟨h1, h3, h4⟩
  simp only at h1 h3 h4 ⊢
  by_cases hil : i < l.length
  · obtain ⟨f, hfi⟩ : ∃ f, l[i]? = some f := ⟨l[i], List.getElem?_eq_getElem hil⟩
    have hfl := hf f (List.mem_of_getElem? hfi)
    have hdn : acc.length = i := by rw [h3, List.length_take]; omega
    have hnx : acc ++ [f] = l.take (i + 1) := by
      obtain ⟨hi, e⟩ := List.getElem?_eq_some_iff.1 hfi
      rw [List.take_succ_eq_append_getElem hi, e, h3]
    rw [ofGo_at hfi] at h4
    have hwr := fun (H : Heap) (hg : H.get 2 = some (.opt (rowsF acc))) => wrong_call (H := H) (b := 2) (acc := acc) f (by omega) (by omega) (by omega) (fun H => hca _ H (by omega)) hg
    rw [hdn] at hwr
    have htw := fun H => twin_call f.1 f.2 hfl.1 hfl.2 H
    rw [hdn]
    obtain ⟨nm, val⟩ := f
    by_cases hw : hwrong (nm, val) i = 0
    · rw [if_pos hw] at h4
      rw [hw] at hwr
      have hrl : (rowsF acc).length = i * 2 := by rw [rowsF_len, hdn]
      repeat' (first | with_reducible refine And.intro ?_ ?_ | ((with_reducible intro hc); (try simp only [zA, zB, zC, zD, zE, zF, zG, zH, zI, zJ, zK, zL, zM, zN, zO, zP, zQ, zR, zS, zT, zU, zV, zW] at hc); (first | (exact absurd rfl hc) | (exact absurd trivial hc) | (exfalso; omega) | skip)) | exact Is.mk rfl rfl | ((conv => whnf); first | with_reducible refine And.intro ?_ ?_ | with_reducible intro hx | exact Is.mk rfl rfl | (with_reducible first | apply Val.via | apply ValH.via) | refine ifB_intro ?_ ?_ | refine xA (by omega) ?_ | ((refine xB ?_); intro kw hk1 hk2) | refine xC (by omega) ?_ | refine xD ?_ | refine xE (by omega) ?_ | refine xF (by omega) ?_ | refine xG ?_ | refine xH ?_ | refine xI (by omega) ?_ | refine xJ (by omega) ?_ | (with_reducible refine stopA ?_) | refine Exists.intro _ (And.intro (by (first | exact vat_rowsF hfi rfl | exact vat_of rfl rfl rfl | rfl)) ?_) | refine GOp.drawn (by rfl) (by rfl) (Nat.le_of_ble_eq_true (by rfl)) (by rfl) | refine GOp.via (by rfl) ?_ | (refine GCall.mk ((hwr _ rfl).mono ?_); rintro _ _ ⟨rfl, rfl⟩) | (with_reducible first | refine stopO ?_ | refine stopE ?_ | refine stopD ?_ | refine stopW ?_ | refine stopG ?_ | refine stopC ?_ | refine stopR ?_)))
      (all_goals (first | omega | (rw [List.length_map]; done) | (rw [List.length_map]; omega) | skip))
      refine GWP'.mk (GWP.drawF mixed 5 7 30 (.gs 4 (i + 1) 2) (fun H => (H.del 2).add (.opt (rowsF acc ++ [roB nm, roB val]))) (by kernel_rfl) (by rfl) ?_)
      repeat' (first | with_reducible refine And.intro ?_ ?_ | ((with_reducible intro hc); (try simp only [zA, zB, zC, zD, zE, zF, zG, zH, zI, zJ, zK, zL, zM, zN, zO, zP, zQ, zR, zS, zT, zU, zV, zW] at hc); (first | (exact absurd rfl hc) | (exact absurd trivial hc) | (exfalso; omega) | skip)) | exact Is.mk rfl rfl | ((conv => whnf); first | with_reducible refine And.intro ?_ ?_ | with_reducible intro hx | exact Is.mk rfl rfl | (with_reducible first | apply Val.via | apply ValH.via) | refine ifB_intro ?_ ?_ | refine xA (by omega) ?_ | ((refine xB ?_); intro kw hk1 hk2) | refine xC (by omega) ?_ | refine xD ?_ | refine xE (by omega) ?_ | refine xF (by omega) ?_ | refine xG ?_ | refine xH ?_ | refine xI (by omega) ?_ | refine xJ (by omega) ?_ | (with_reducible refine stopA ?_) | refine Exists.intro _ (And.intro (by (first | exact vat_rowsF hfi rfl | exact vat_of rfl rfl rfl | rfl)) ?_) | (refine GOp.drawnF (by rfl) (by rfl) (by rfl)) | refine GOp.drawn (by rfl) (by rfl) (Nat.le_of_ble_eq_true (by rfl)) (by rfl) | refine GOp.via (by rfl) ?_ | refine GWP.drawY mixed _ (by kernel_rfl) (by rfl) ?_ | (first | (refine GCall.mk ((htw _).mono ?_); rintro _ _ ⟨rfl, rfl⟩) | (refine stopO (GOp'.grow rfl sty_F (d := .slice 97) Tryd.underlying74 (by intro k h; cases h) rfl (m := 1) (l := [roB nm, roB val]) (by rfl) (by rfl) rfl hrl (by omega) (by omega) ?_))) | (with_reducible first | refine stopO ?_ | refine stopE ?_ | refine stopD ?_ | refine stopW ?_ | refine stopG ?_ | refine stopC ?_ | refine stopR ?_)))
      (all_goals (first | omega | (rw [List.length_map]; done) | (rw [List.length_map]; omega) | skip))
      focus (refine Done'.mk ⟨(acc ++ [(nm, val)], i + 1), ⟨by simp only; omega, hnx, h4⟩, ?_, KeptA.of [(4, 2)] rfl rfl (by repeat' (first | exact trivial | refine And.intro rfl ?_)) rfl ?_ ?_⟩; (first | omega | (simp only; omega)); all_goals (repeat' (first | exact trivial | (refine And.intro ?_ ?_) | (refine Exists.intro _ (And.intro rfl ?_)) | (refine RenO.opt ?_) | (refine RenO.toOpt ?_) | (refine RenO.cells ?_) | exact RenO.defs | exact RenL.nil | (refine RenL.cons ?_ ?_) | (first | (first | exact RenV.gsE (List.Mem.head _) (by simp; omega) | exact RenL.eq (rowsF_snoc acc (nm, val)).symm (rowsF_nameless _) | exact RenV.eq (scI_eq (by omega)) (nameless_sc _)) | (with_reducible exact RenV.sc) | exact RenV.gsN | exact RenV.gsZ | exact RenV.gsL (by decide) | exact RenV.slL (by decide) | ((first | refine RenV.gsE (by (first | exact List.Mem.head _ | exact List.Mem.tail _ (List.Mem.head _) | exact List.Mem.tail _ (List.Mem.tail _ (List.Mem.head _)) | (simp; done))) ?_ | refine RenV.eq (scI_eq ?_) (nameless_sc _)); (first | rfl | omega | (simp only [List.length_append, List.length_cons, List.length_nil, List.length_map, List.length_take, List.length_drop] <;> omega) | (simp only <;> omega) | (simp <;> omega))) | exact RenV.undef) | (with_unfolding_all exact (rfl : (_ : VObj) = _)))))
    · rw [if_neg hw] at h4
      generalize hwrong (nm, val) i = e at *
      repeat' (first | with_reducible refine And.intro ?_ ?_ | ((with_reducible intro hc); (try simp only [zA, zB, zC, zD, zE, zF, zG, zH, zI, zJ, zK, zL, zM, zN, zO, zP, zQ, zR, zS, zT, zU, zV, zW] at hc); (first | (exact absurd rfl hc) | (exact absurd trivial hc) | (exfalso; omega) | skip)) | exact Is.mk rfl rfl | ((conv => whnf); first | with_reducible refine And.intro ?_ ?_ | with_reducible intro hx | exact Is.mk rfl rfl | (with_reducible first | apply Val.via | apply ValH.via) | refine ifB_intro ?_ ?_ | refine xA (by omega) ?_ | ((refine xB ?_); intro kw hk1 hk2) | refine xC (by omega) ?_ | refine xD ?_ | refine xE (by omega) ?_ | refine xF (by omega) ?_ | refine xG ?_ | refine xH ?_ | refine xI (by omega) ?_ | refine xJ (by omega) ?_ | (with_reducible refine stopA ?_) | refine Exists.intro _ (And.intro (by (first | exact vat_rowsF hfi rfl | exact vat_of rfl rfl rfl | rfl)) ?_) | refine GOp.drawn (by rfl) (by rfl) (Nat.le_of_ble_eq_true (by rfl)) (by rfl) | refine GOp.via (by rfl) ?_ | refine GWP.drawY mixed _ (by kernel_rfl) (by rfl) ?_ | (refine GCall.mk ((hwr _ rfl).mono ?_); rintro _ _ ⟨rfl, rfl⟩) | (with_reducible first | refine stopO ?_ | refine stopE ?_ | refine stopD ?_ | refine stopW ?_ | refine stopG ?_ | refine stopC ?_ | refine stopR ?_)))
      (all_goals (first | omega | (rw [List.length_map]; done) | (rw [List.length_map]; omega) | skip))
      refine Done'.mk ?_
      unfold ofV'
      rw [h4, if_neg hw]
      exact Frz.tp (.cons (Frz.agL (.cons Frz.nil0 .nil)) (.cons (Frz.of (nameless_sc _)) .nil))
  · obtain rfl : i = l.length := by omega
    rw [List.take_length] at h3
    subst h3
    rw [List.drop_length] at h4
    repeat' (first | with_reducible refine And.intro ?_ ?_ | ((with_reducible intro hc); (try simp only [zA, zB, zC, zD, zE, zF, zG, zH, zI, zJ, zK, zL, zM, zN, zO, zP, zQ, zR, zS, zT, zU, zV, zW] at hc); (first | (exact absurd rfl hc) | (exact absurd trivial hc) | (exfalso; omega) | skip)) | exact Is.mk rfl rfl | ((conv => whnf); first | with_reducible refine And.intro ?_ ?_ | with_reducible intro hx | exact Is.mk rfl rfl | (with_reducible first | apply Val.via | apply ValH.via) | refine ifB_intro ?_ ?_ | refine xA (by omega) ?_ | ((refine xB ?_); intro kw hk1 hk2) | refine xC (by omega) ?_ | refine xD ?_ | refine xE (by omega) ?_ | refine xF (by omega) ?_ | refine xG ?_ | refine xH ?_ | refine xI (by omega) ?_ | refine xJ (by omega) ?_ | (with_reducible refine stopA ?_) | refine Exists.intro _ (And.intro (by (first | exact vat_of rfl rfl rfl | rfl)) ?_) | refine GOp.drawn (by rfl) (by rfl) (Nat.le_of_ble_eq_true (by rfl)) (by rfl) | refine GOp.via (by rfl) ?_ | refine GWP.drawY mixed _ (by kernel_rfl) (by rfl) ?_ | fail | (with_reducible first | refine stopO ?_ | refine stopE ?_ | refine stopD ?_ | refine stopW ?_ | refine stopG ?_ | refine stopC ?_ | refine stopR ?_)))
    (all_goals (first | omega | (rw [List.length_map]; done) | (rw [List.length_map]; omega) | skip))
    refine Done'.mk ?_
    unfold ofV'
    rw [if_pos (show ofGo acc 0 = 0 from h4)]
    exact Frz.tp (.cons (Frz.agL (.cons (Frz.gs rfl (rowsF_len _) (rowsF_nameless _)) .nil)) (.cons (Frz.of (nameless_sc _)) .nil))
theorem txtH_len (l : List HF) : (txtH l).length = (txtsF l).length + 2 := by unfold txtH; rw [List.length_append]; rfl
/-- A header's text, as a slice of its own. -/
theorem textN_call (l : List HF) (hl : l.length ≤ 2000) (hf : ∀ f ∈ l, f.1.length ≤ 10000 ∧ f.2.length ≤ 10000) (H : Heap) : VCall Tryd.prog 53 [hdrV l] H (fun v K => v = .gs H.next (txtH l).length 1 ∧ K = ⟨(H.next, .opt ((txtH l).map bV)) :: H.objs, H.next + 1⟩) := by
  refine VCall.newV (u := .gs 0 (txtH l).length 1) (fun b => .gs b (txtH l).length 1) (fun b => .gs (List.Mem.head _)) (by simp [nameless_hdrV]) (fun R => .opt (.of (nameless_map nameless_bV _))) rfl ?_ H
  refine VCall.outR (Q := TxtQ l) (text0_call l hl hf) ?_
  rintro v K ⟨rfl, h⟩
  have e : (txtsF l).map bV ++ ([13, 10] : List UInt8).map bV = (txtH l).map bV := by unfold txtH; rw [List.map_append]
  rw [e] at h
  rw [txtH_len]
  exact ⟨.gs 0 ((txtsF l).length + 2) 1, [(0, .opt ((txtH l).map bV))], 1, [(2, 0)], rfl, .gs (List.Mem.head _), ⟨⟨_, h, .opt (.of (nameless_map nameless_bV _))⟩, trivial⟩, rfl, rfl⟩
end Go.Proofs.YtmmjgbdihgdekaaDoor

