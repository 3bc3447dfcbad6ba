import Derived.Test.YtmmjgbdihgdekaaDoorG4
/- The document's Wrong and Parse, walked. -/
namespace Go.Proofs.YtmmjgbdihgdekaaDoor
open Go Go.RowKit
set_option linter.unusedSimpArgs false
set_option linter.unusedVariables false
set_option maxRecDepth 100000
set_option maxHeartbeats 4000000
def rowsS (l : List HF) : List VV := l.flatMap fun f => [strV f.1, strV f.2]
theorem rowsS_len (l : List HF) : (rowsS l).length = l.length * 2 := by
  induction l with
  | nil => rfl
  | cons a r ih =>
    show (strV a.1 :: strV a.2 :: rowsS r).length = _
    simp only [List.length_cons, ih]
    omega
theorem rowsS_nameless (l : List HF) : ∀ v ∈ rowsS l, Nameless v := fun v hv => by
  obtain ⟨f, _, h⟩ := List.mem_flatMap.1 hv
  simp only [List.mem_cons, List.not_mem_nil, or_false] at h
  rcases h with rfl | rfl
  · exact nameless_strV _
  · exact nameless_strV _
theorem rowsS_snoc (l : List HF) (f : HF) : rowsS (l ++ [f]) = rowsS l ++ [strV f.1, strV f.2] := by
  unfold rowsS
  rw [List.flatMap_append, List.flatMap_cons, List.flatMap_nil, List.append_nil]
theorem sty_R : SlTy Tryd.prog 79 2 32 := ⟨⟨_, _, _, rfl, rfl, rfl, rfl, rfl, rfl⟩⟩
def rresV : HR → VV
  | .err e => .tp [.ro 0 [], strV [], iV e]
  | .ok l b => .tp [.ro l.length (rowsS l), strV b, iV 0]
theorem frz_rok {K : Heap} {b : Nat} {l : List HF} {body : List UInt8} (hg : K.get b = some (.opt (rowsS l))) : Frz K (.tp [.gs b l.length 2, strV body, iV 0]) (rresV (.ok l body)) :=
  Frz.tp (.cons (Frz.gs hg (rowsS_len l) (rowsS_nameless l)) (.cons (Frz.of (nameless_strV _)) (.cons (Frz.of (nameless_sc _)) .nil)))
theorem frz_rerr {K : Heap} (e : Nat) : Frz K (.tp [.sc (.slice none 0 0), strV [], iV e]) (rresV (.err e)) :=
  Frz.tp (.cons Frz.nil0 (.cons (Frz.of (nameless_strV _)) (.cons (Frz.of (nameless_sc _)) .nil)))
theorem hgo_cut {r : List UInt8} (acc : List HF) (hr : r ≠ []) : hgo r [] acc = hstep (cutB r 10).1 acc (.ok acc (cutB r 10).2.1) (fun a => hgo (cutB r 10).2.1 [] a) ∧ (cutB r 10).2.1.length < r.length ∧ (cutB r 10).1.length ≤ r.length := by
  by_cases hc : r.contains 10 = true
  · obtain ⟨e1, e2, e3⟩ := line_at hc
    have hcut : cutB r 10 = (r.take (r.idxOf 10), r.drop (r.idxOf 10 + 1), true) := by unfold cutB; rw [if_pos hc]
    rw [hcut]
    refine ⟨?_, by simp only [List.length_drop]; omega, by simp only [List.length_take]; omega⟩
    conv => lhs; rw [e1]
    rw [hgo_line _ _ _ _ e2, List.nil_append]
  · have hcut : cutB r 10 = (r, [], false) := by unfold cutB; rw [if_neg hc]
    rw [hcut]
    refine ⟨?_, ?_, Nat.le_refl _⟩
    · rw [hgo_last _ _ _ (by simpa using hc), List.nil_append]
      rfl
    · cases r with
      | nil => exact absurd rfl hr
      | cons a t => simp
theorem rwrong_call (nm val : List UInt8) (n : Nat) (hnm : nm.length ≤ 10000) (hval : val.length ≤ 10000) (hn : n ≤ 10000) (H : Heap) : VCall Tryd.prog 55 [.ag [strV nm, strV val], iV n] H (fun v K => v = iV (hwrong (nm, val) n) ∧ K = H) := by
  refine VCall.pure (by simp [nameless_sc, iV, show Nameless (.ag [strV nm, strV val]) from nameless_ag (by simp [nameless_strV])]) (nameless_sc _) ?_
  have htok := fun H => rtoken_call nm H (by omega)
  have htr := fun H => rtrim_call val (by omega) H
  have h13 := fun H => in_call 13 val H (by omega)
  have h10 := fun H => in_call 10 val H (by omega)
  unfold hwrong
  refine VCall.go Tryd.func55 rfl ?_
  repeat' (first | with_reducible refine And.intro ?_ ?_ | ((with_reducible intro hc); (try simp only [zA, zB, zC, zD, zE, zF, zG, zH, zI, zJ, zK, zL, zM, zN, zO, zP, zQ, zR, zS, zT, zU, zV, zW] at hc); (first | (exact absurd rfl hc) | (exact absurd trivial hc) | (exfalso; omega) | skip)) | exact Is.mk rfl rfl | ((conv => whnf); first | with_reducible refine And.intro ?_ ?_ | with_reducible intro hx | exact Is.mk rfl rfl | (with_reducible first | apply Val.via | apply ValH.via) | refine ifB_intro ?_ ?_ | refine xA (by omega) ?_ | ((refine xB ?_); intro kw hk1 hk2) | refine xC (by omega) ?_ | refine xD ?_ | refine xE (by omega) ?_ | refine xF (by omega) ?_ | refine xG ?_ | refine xH ?_ | refine xI (by omega) ?_ | refine xJ (by omega) ?_ | (with_reducible refine stopA ?_) | refine Exists.intro _ (And.intro (by (first | exact vat_of rfl rfl rfl | rfl)) ?_) | refine GOp.drawn (by rfl) (by rfl) (Nat.le_of_ble_eq_true (by rfl)) (by rfl) | refine GOp.via (by rfl) ?_ | refine GWP.drawY mixed _ (by kernel_rfl) (by rfl) ?_ | (first | (refine GCall.mk ((htok _).mono ?_); rintro _ _ ⟨rfl, rfl⟩) | (refine GCall.mk ((htr _).mono ?_); rintro _ _ ⟨rfl, rfl⟩) | (refine GCall.mk ((h13 _).mono ?_); rintro _ _ ⟨rfl, rfl⟩) | (refine GCall.mk ((h10 _).mono ?_); rintro _ _ ⟨rfl, rfl⟩)) | (with_reducible first | refine stopO ?_ | refine stopE ?_ | refine stopD ?_ | refine stopW ?_ | refine stopG ?_ | refine stopC ?_ | refine stopR ?_)))
  (all_goals (first | omega | skip))
  all_goals (clear htok htr h13 h10; refine Done'.mk ?_; first | (rw [if_pos (by simp_all)]; rfl) | (rw [if_neg (by simp_all), if_pos (by omega)]; rfl) | (rw [if_neg (by simp_all), if_neg (by omega)]; rfl))
theorem rparse_call (t : List UInt8) (ht : t.length ≤ 10000) (H : Heap) : VCall Tryd.prog 44 [strV t] H (fun v K => v = rresV (hparse t) ∧ K = H) := by
  refine VCall.frozen (Q := fun v K => Frz K v (rresV (hparse t))) (by simp [nameless_strV]) ?_ (fun v K h => h)
  refine VCall.go Tryd.func44 rfl ?_
  repeat' (first | with_reducible refine And.intro ?_ ?_ | ((with_reducible intro hc); (try simp only [zA, zB, zC, zD, zE, zF, zG, zH, zI, zJ, zK, zL, zM, zN, zO, zP, zQ, zR, zS, zT, zU, zV, zW] at hc); (first | (exact absurd rfl hc) | (exact absurd trivial hc) | (exfalso; omega) | skip)) | exact Is.mk rfl rfl | ((conv => whnf); first | with_reducible refine And.intro ?_ ?_ | with_reducible intro hx | exact Is.mk rfl rfl | (with_reducible first | apply Val.via | apply ValH.via) | refine ifB_intro ?_ ?_ | refine xA (by omega) ?_ | ((refine xB ?_); intro kw hk1 hk2) | refine xC (by omega) ?_ | refine xD ?_ | refine xE (by omega) ?_ | refine xF (by omega) ?_ | refine xG ?_ | refine xH ?_ | refine xI (by omega) ?_ | refine xJ (by omega) ?_ | (with_reducible refine stopA ?_) | refine Exists.intro _ (And.intro (by (first | exact vat_of rfl rfl rfl | rfl)) ?_) | refine GOp.drawn (by rfl) (by rfl) (Nat.le_of_ble_eq_true (by rfl)) (by rfl) | refine GOp.via (by rfl) ?_ | refine GWP.drawY mixed _ (by kernel_rfl) (by rfl) ?_ | fail | (with_reducible first | refine stopO ?_ | refine stopE ?_ | refine stopD ?_ | refine stopW ?_ | refine stopG ?_ | refine stopC ?_ | refine stopR ?_)))
  (all_goals (first | omega | skip))
  (refine GWP'.mk (GWP.loopB [0] (fun (s : List HF × List UInt8) => s.1.length + s.2.length ≤ t.length ∧ hgo s.2 [] s.1 = hparse t) (fun s => [(0, strV s.2), (5, .gs 1 s.1.length 2)]) (fun s => [(1, .opt (rowsS s.1))]) 2 (fun s => s.2.length) ([], t) ⟨by simp, rfl⟩ ?_); (conv => whnf); refine And.intro ?_ ?_)
  · focus (refine KeptA.of [(0, 1)] rfl rfl (by repeat' (first | exact trivial | refine And.intro rfl ?_)) rfl ?_ ?_; all_goals (repeat' (first | exact trivial | (refine And.intro ?_ ?_) | (refine Exists.intro _ (And.intro rfl ?_)) | (refine RenO.opt ?_) | (refine RenO.toOpt ?_) | (refine RenO.cells ?_) | exact RenO.defs | exact RenL.nil | (refine RenL.cons ?_ ?_) | (first | (first | exact RenL.of (rowsS_nameless _) | exact RenV.of (nameless_strV _)) | (with_reducible exact RenV.sc) | exact RenV.gsN | exact RenV.gsZ | exact RenV.gsL (by decide) | exact RenV.slL (by decide) | ((first | refine RenV.gsE (by (first | exact List.Mem.head _ | exact List.Mem.tail _ (List.Mem.head _) | exact List.Mem.tail _ (List.Mem.tail _ (List.Mem.head _)) | (simp; done))) ?_ | refine RenV.eq (scI_eq ?_) (nameless_sc _)); (first | rfl | omega | (simp only [List.length_append, List.length_cons, List.length_nil, List.length_map, List.length_take, List.length_drop] <;> omega) | (simp only <;> omega) | (simp <;> omega))) | exact RenV.undef) | (with_unfolding_all exact (rfl : (_ : VObj) = _)))))
  rintro ⟨acc, r⟩ ⟨h1, h2⟩
  simp only at h1 h2 ⊢
  by_cases hr : r = []
  · subst hr
    have h3 : HR.ok acc [] = hparse t := h2
    repeat' (first | with_reducible refine And.intro ?_ ?_ | ((with_reducible intro hc); (try simp only [zA, zB, zC, zD, zE, zF, zG, zH, zI, zJ, zK, zL, zM, zN, zO, zP, zQ, zR, zS, zT, zU, zV, zW] at hc); (first | (exact absurd rfl hc) | (exact absurd trivial hc) | (exfalso; omega) | skip)) | exact Is.mk rfl rfl | ((conv => whnf); first | with_reducible refine And.intro ?_ ?_ | with_reducible intro hx | exact Is.mk rfl rfl | (with_reducible first | apply Val.via | apply ValH.via) | refine ifB_intro ?_ ?_ | refine xA (by omega) ?_ | ((refine xB ?_); intro kw hk1 hk2) | refine xC (by omega) ?_ | refine xD ?_ | refine xE (by omega) ?_ | refine xF (by omega) ?_ | refine xG ?_ | refine xH ?_ | refine xI (by omega) ?_ | refine xJ (by omega) ?_ | (with_reducible refine stopA ?_) | refine Exists.intro _ (And.intro (by (first | exact vat_of rfl rfl rfl | rfl)) ?_) | refine GOp.drawn (by rfl) (by rfl) (Nat.le_of_ble_eq_true (by rfl)) (by rfl) | refine GOp.via (by rfl) ?_ | refine GWP.drawY mixed _ (by kernel_rfl) (by rfl) ?_ | fail | (with_reducible first | refine stopO ?_ | refine stopE ?_ | refine stopD ?_ | refine stopW ?_ | refine stopG ?_ | refine stopC ?_ | refine stopR ?_)))
    (all_goals (first | omega | skip))
    rw [← h3]
    exact Done'.mk (frz_rok rfl)
  · obtain ⟨g1, g2, g3⟩ := hgo_cut acc hr
    rw [g1] at h2
    have hra := fun H => rat_call r 10 H (by omega)
    obtain ⟨p, hp⟩ : ∃ p, (cutB r 10).1 = p := ⟨_, rfl⟩
    obtain ⟨rest, hrest⟩ : ∃ p, (cutB r 10).2.1 = p := ⟨_, rfl⟩
    rw [hp] at h2 hra g3
    rw [hrest] at h2 hra g2
    unfold hstep at h2
    have hpz := str_size p
    rcases List.eq_nil_or_concat p with rfl | ⟨q, d, hq⟩
    · rw [if_pos (show trimCR [] = [] from rfl)] at h2
      repeat' (first | with_reducible refine And.intro ?_ ?_ | ((with_reducible intro hc); (try simp only [zA, zB, zC, zD, zE, zF, zG, zH, zI, zJ, zK, zL, zM, zN, zO, zP, zQ, zR, zS, zT, zU, zV, zW] at hc); (first | (exact absurd rfl hc) | (exact absurd trivial hc) | (exfalso; omega) | skip)) | exact Is.mk rfl rfl | ((conv => whnf); first | with_reducible refine And.intro ?_ ?_ | with_reducible intro hx | exact Is.mk rfl rfl | (with_reducible first | apply Val.via | apply ValH.via) | refine ifB_intro ?_ ?_ | refine xA (by omega) ?_ | ((refine xB ?_); intro kw hk1 hk2) | refine xC (by omega) ?_ | refine xD ?_ | refine xE (by omega) ?_ | refine xF (by omega) ?_ | refine xG ?_ | refine xH ?_ | refine xI (by omega) ?_ | refine xJ (by omega) ?_ | (with_reducible refine stopA ?_) | refine Exists.intro _ (And.intro (by (first | exact vat_of rfl rfl rfl | rfl)) ?_) | refine GOp.drawn (by rfl) (by rfl) (Nat.le_of_ble_eq_true (by rfl)) (by rfl) | refine GOp.via (by rfl) ?_ | refine GWP.drawY mixed _ (by kernel_rfl) (by rfl) ?_ | (refine GCall.mk ((hra _).mono ?_); rintro _ _ ⟨rfl, rfl⟩) | (with_reducible first | refine stopO ?_ | refine stopE ?_ | refine stopD ?_ | refine stopW ?_ | refine stopG ?_ | refine stopC ?_ | refine stopR ?_)))
      all_goals (first | omega | (exfalso; exact hr hc) | (simp at hc; done) | skip)
      rw [← h2]
      exact Done'.mk (frz_rok rfl)
    · rw [List.concat_eq_append] at hq
      have hpl : p.length = q.length + 1 := by rw [hq]; simp
      have hpn : ¬ p = [] := fun e => by rw [e] at hpl; simp at hpl
      have hd : p[((p.length : Int) - 1).toNat]? = some d := by
        rw [show ((p.length : Int) - 1).toNat = q.length by omega, hq]
        simp
      have hsl : VV.sc (.string ((⟨p.toArray⟩ : ByteArray).extract 0 (((⟨p.toArray⟩ : ByteArray).size : Int) - 1).toNat)) = strV q := strV_ext (by
        rw [hpz, show ((p.length : Int) - 1).toNat - 0 = q.length by omega, List.drop_zero, hq]
        simp)
      by_cases hd13 : d = 13
      · have hy : trimCR p = q := by
          unfold trimCR
          rw [hq, hd13]
          simp
        rw [hy] at h2
        have hd13z : (d.toNat : Int) = 13 := by rw [hd13]; rfl
        have hq2 : ((⟨p.toArray⟩ : ByteArray).extract 0 ((p.length : Int) - 1).toNat).data.toList = q := by
          rw [hpz] at hsl
          injection hsl with h
          injection h with h
          rw [h]
        by_cases hyn : q = []
        · rw [if_pos hyn] at h2
          repeat' (first | with_reducible refine And.intro ?_ ?_ | ((with_reducible intro hc); (try simp only [zA, zB, zC, zD, zE, zF, zG, zH, zI, zJ, zK, zL, zM, zN, zO, zP, zQ, zR, zS, zT, zU, zV, zW] at hc); (first | (exact absurd rfl hc) | (exact absurd trivial hc) | (exfalso; omega) | skip)) | exact Is.mk rfl rfl | ((conv => whnf); first | with_reducible refine And.intro ?_ ?_ | with_reducible intro hx | exact Is.mk rfl rfl | (with_reducible first | apply Val.via | apply ValH.via) | refine ifB_intro ?_ ?_ | refine xA (by omega) ?_ | ((refine xB ?_); intro kw hk1 hk2) | refine xC (by omega) ?_ | refine xD ?_ | refine xE (by omega) ?_ | refine xF (by omega) ?_ | refine xG ?_ | refine xH ?_ | refine xI (by omega) ?_ | refine xJ (by omega) ?_ | (with_reducible refine stopA ?_) | refine Exists.intro _ (And.intro (by (first | (simp only [hpz]; exact hd) | exact vat_of rfl rfl rfl | rfl)) ?_) | refine GOp.drawn (by rfl) (by rfl) (Nat.le_of_ble_eq_true (by rfl)) (by rfl) | refine GOp.via (by rfl) ?_ | refine GWP.drawY mixed _ (by kernel_rfl) (by rfl) ?_ | (refine GCall.mk ((hra _).mono ?_); rintro _ _ ⟨rfl, rfl⟩) | (with_reducible first | refine stopO ?_ | refine stopE ?_ | refine stopD ?_ | refine stopW ?_ | refine stopG ?_ | refine stopC ?_ | refine stopR ?_)))
          all_goals (first | omega | contradiction | (exfalso; exact hpn hc) | (exfalso; exact hr hc) | (exfalso; exact hc (hq2.trans hyn)) | skip)
          rw [← h2]
          exact Done'.mk (frz_rok rfl)
        · rw [if_neg hyn] at h2
          repeat' (first | with_reducible refine And.intro ?_ ?_ | ((with_reducible intro hc); (try simp only [zA, zB, zC, zD, zE, zF, zG, zH, zI, zJ, zK, zL, zM, zN, zO, zP, zQ, zR, zS, zT, zU, zV, zW] at hc); (first | (exact absurd rfl hc) | (exact absurd trivial hc) | (exfalso; omega) | skip)) | exact Is.mk rfl rfl | ((conv => whnf); first | with_reducible refine And.intro ?_ ?_ | with_reducible intro hx | exact Is.mk rfl rfl | (with_reducible first | apply Val.via | apply ValH.via) | refine ifB_intro ?_ ?_ | refine xA (by omega) ?_ | ((refine xB ?_); intro kw hk1 hk2) | refine xC (by omega) ?_ | refine xD ?_ | refine xE (by omega) ?_ | refine xF (by omega) ?_ | refine xG ?_ | refine xH ?_ | refine xI (by omega) ?_ | refine xJ (by omega) ?_ | (with_reducible refine stopA ?_) | refine Exists.intro _ (And.intro (by (first | (simp only [hpz]; exact hd) | exact vat_of rfl rfl rfl | rfl)) ?_) | refine GOp.drawn (by rfl) (by rfl) (Nat.le_of_ble_eq_true (by rfl)) (by rfl) | refine GOp.via (by rfl) ?_ | refine GWP.drawY mixed _ (by kernel_rfl) (by rfl) ?_ | (refine GCall.mk ((hra _).mono ?_); rintro _ _ ⟨rfl, rfl⟩) | (with_reducible first | refine stopO ?_ | refine stopE ?_ | refine stopD ?_ | refine stopW ?_ | refine stopG ?_ | refine stopC ?_ | refine stopR ?_)))
          all_goals (first | omega | contradiction | (exfalso; exact hpn hc) | (exfalso; exact hr hc) | (exfalso; exact hyn (hq2.symm.trans hc)) | skip)
          have hee : herr q acc.length = if (cutB q 58).2.2 then hwrong (hfield q) acc.length else 2 := rfl
          have hff : hfield q = ((cutB q 58).1, trimB (cutB q 58).2.1) := rfl
          rw [hee, hff] at h2
          have hat := fun H => rat_call q 58 H (by omega)
          have hcl := cutB_len q 58
          have htl := (trimB_sub (cutB q 58).2.1).length_le
          have htr := fun H => rtrim_call (cutB q 58).2.1 (by omega) H
          have hwr := fun H => rwrong_call (cutB q 58).1 (trimB (cutB q 58).2.1) acc.length (by omega) (by omega) (by omega) H
          clear hff hee
          generalize trimB (cutB q 58).2.1 = val at *
          generalize (cutB q 58).1 = nm at *
          generalize (cutB q 58).2.1 = v0 at *
          generalize hwrong (nm, val) acc.length = e at *
          cases hfd : (cutB q 58).2.2 with
          | false =>
            rw [hfd] at hat h2
            rw [if_neg (show ¬ (if false = true then e else 2) = 0 by simp)] at h2
            refine GCall'.mk (VCall.arg21 hsl ((hat _).mono ?_))
            rintro _ _ ⟨rfl, rfl⟩
            repeat' (first | with_reducible refine And.intro ?_ ?_ | ((with_reducible intro hc); (try simp only [zA, zB, zC, zD, zE, zF, zG, zH, zI, zJ, zK, zL, zM, zN, zO, zP, zQ, zR, zS, zT, zU, zV, zW] at hc); (first | (exact absurd rfl hc) | (exact absurd trivial hc) | (exfalso; omega) | skip)) | exact Is.mk rfl rfl | ((conv => whnf); first | with_reducible refine And.intro ?_ ?_ | with_reducible intro hx | exact Is.mk rfl rfl | (with_reducible first | apply Val.via | apply ValH.via) | refine ifB_intro ?_ ?_ | refine xA (by omega) ?_ | ((refine xB ?_); intro kw hk1 hk2) | refine xC (by omega) ?_ | refine xD ?_ | refine xE (by omega) ?_ | refine xF (by omega) ?_ | refine xG ?_ | refine xH ?_ | refine xI (by omega) ?_ | refine xJ (by omega) ?_ | (with_reducible refine stopA ?_) | refine Exists.intro _ (And.intro (by (first | exact vat_of rfl rfl rfl | rfl)) ?_) | refine GOp.drawn (by rfl) (by rfl) (Nat.le_of_ble_eq_true (by rfl)) (by rfl) | refine GOp.via (by rfl) ?_ | refine GWP.drawY mixed _ (by kernel_rfl) (by rfl) ?_ | (first | (refine GCall.mk ((htr _).mono ?_); rintro _ _ ⟨rfl, rfl⟩)) | (with_reducible first | refine stopO ?_ | refine stopE ?_ | refine stopD ?_ | refine stopW ?_ | refine stopG ?_ | refine stopC ?_ | refine stopR ?_)))
            (all_goals (first | omega | skip))
            rw [← h2]
            exact Done'.mk (frz_rerr 2)
          | true =>
            rw [hfd] at hat h2
            simp only [if_true] at h2
            by_cases he : e = 0
            · rw [if_pos he] at h2
              subst he
              refine GCall'.mk (VCall.arg21 hsl ((hat _).mono ?_))
              rintro _ _ ⟨rfl, rfl⟩
              repeat' (first | with_reducible refine And.intro ?_ ?_ | ((with_reducible intro hc); (try simp only [zA, zB, zC, zD, zE, zF, zG, zH, zI, zJ, zK, zL, zM, zN, zO, zP, zQ, zR, zS, zT, zU, zV, zW] at hc); (first | (exact absurd rfl hc) | (exact absurd trivial hc) | (exfalso; omega) | skip)) | exact Is.mk rfl rfl | ((conv => whnf); first | with_reducible refine And.intro ?_ ?_ | with_reducible intro hx | exact Is.mk rfl rfl | (with_reducible first | apply Val.via | apply ValH.via) | refine ifB_intro ?_ ?_ | refine xA (by omega) ?_ | ((refine xB ?_); intro kw hk1 hk2) | refine xC (by omega) ?_ | refine xD ?_ | refine xE (by omega) ?_ | refine xF (by omega) ?_ | refine xG ?_ | refine xH ?_ | refine xI (by omega) ?_ | refine xJ (by omega) ?_ | (with_reducible refine stopA ?_) | refine Exists.intro _ (And.intro (by (first | exact vat_of rfl rfl rfl | rfl)) ?_) | refine GOp.drawn (by rfl) (by rfl) (Nat.le_of_ble_eq_true (by rfl)) (by rfl) | refine GOp.via (by rfl) ?_ | refine GWP.drawY mixed _ (by kernel_rfl) (by rfl) ?_ | (first | (refine GCall.mk ((htr _).mono ?_); rintro _ _ ⟨rfl, rfl⟩) | (refine GCall.mk ((hwr _).mono ?_); rintro _ _ ⟨rfl, rfl⟩) | (refine stopO (GOp'.grow rfl sty_R (d := .slice 98) Tryd.underlying79 (by intro k h; cases h) rfl (m := 1) (l := [strV nm, strV val]) (by rfl) (by rfl) rfl (rowsS_len acc) (by omega) (by omega) ?_))) | (with_reducible first | refine stopO ?_ | refine stopE ?_ | refine stopD ?_ | refine stopW ?_ | refine stopG ?_ | refine stopC ?_ | refine stopR ?_)))
              (all_goals (first | omega | skip))
              focus (refine Done'.mk ⟨(acc ++ [(nm, val)], rest), ⟨by simp only [List.length_append, List.length_cons, List.length_nil]; omega, h2⟩, ?_, KeptA.of [(4, 1)] rfl rfl (by repeat' (first | exact trivial | refine And.intro rfl ?_)) rfl ?_ ?_⟩; (first | omega | (simp only; omega)); all_goals (repeat' (first | exact trivial | (refine And.intro ?_ ?_) | (refine Exists.intro _ (And.intro rfl ?_)) | (refine RenO.opt ?_) | (refine RenO.toOpt ?_) | (refine RenO.cells ?_) | exact RenO.defs | exact RenL.nil | (refine RenL.cons ?_ ?_) | (first | (first | exact RenL.eq (rowsS_snoc acc (nm, val)).symm (rowsS_nameless _) | exact RenV.of (nameless_strV _) | exact RenV.eq (scI_eq (by omega)) (nameless_sc _)) | (with_reducible exact RenV.sc) | exact RenV.gsN | exact RenV.gsZ | exact RenV.gsL (by decide) | exact RenV.slL (by decide) | ((first | refine RenV.gsE (by (first | exact List.Mem.head _ | exact List.Mem.tail _ (List.Mem.head _) | exact List.Mem.tail _ (List.Mem.tail _ (List.Mem.head _)) | (simp; done))) ?_ | refine RenV.eq (scI_eq ?_) (nameless_sc _)); (first | rfl | omega | (simp only [List.length_append, List.length_cons, List.length_nil, List.length_map, List.length_take, List.length_drop] <;> omega) | (simp only <;> omega) | (simp <;> omega))) | exact RenV.undef) | (with_unfolding_all exact (rfl : (_ : VObj) = _)))))
            · rw [if_neg he] at h2
              refine GCall'.mk (VCall.arg21 hsl ((hat _).mono ?_))
              rintro _ _ ⟨rfl, rfl⟩
              repeat' (first | with_reducible refine And.intro ?_ ?_ | ((with_reducible intro hc); (try simp only [zA, zB, zC, zD, zE, zF, zG, zH, zI, zJ, zK, zL, zM, zN, zO, zP, zQ, zR, zS, zT, zU, zV, zW] at hc); (first | (exact absurd rfl hc) | (exact absurd trivial hc) | (exfalso; omega) | skip)) | exact Is.mk rfl rfl | ((conv => whnf); first | with_reducible refine And.intro ?_ ?_ | with_reducible intro hx | exact Is.mk rfl rfl | (with_reducible first | apply Val.via | apply ValH.via) | refine ifB_intro ?_ ?_ | refine xA (by omega) ?_ | ((refine xB ?_); intro kw hk1 hk2) | refine xC (by omega) ?_ | refine xD ?_ | refine xE (by omega) ?_ | refine xF (by omega) ?_ | refine xG ?_ | refine xH ?_ | refine xI (by omega) ?_ | refine xJ (by omega) ?_ | (with_reducible refine stopA ?_) | refine Exists.intro _ (And.intro (by (first | exact vat_of rfl rfl rfl | rfl)) ?_) | refine GOp.drawn (by rfl) (by rfl) (Nat.le_of_ble_eq_true (by rfl)) (by rfl) | refine GOp.via (by rfl) ?_ | refine GWP.drawY mixed _ (by kernel_rfl) (by rfl) ?_ | (first | (refine GCall.mk ((htr _).mono ?_); rintro _ _ ⟨rfl, rfl⟩) | (refine GCall.mk ((hwr _).mono ?_); rintro _ _ ⟨rfl, rfl⟩)) | (with_reducible first | refine stopO ?_ | refine stopE ?_ | refine stopD ?_ | refine stopW ?_ | refine stopG ?_ | refine stopC ?_ | refine stopR ?_)))
              (all_goals (first | omega | skip))
              rw [← h2]
              exact Done'.mk (frz_rerr e)
      · have hy : trimCR p = p := by
          unfold trimCR
          rw [if_neg (by rw [hq]; simpa using hd13)]
        rw [hy, if_neg hpn] at h2
        have hd13z : ¬ ((d.toNat : Int) = 13) := fun e => hd13 (UInt8.toNat_inj.1 (show d.toNat = (13 : UInt8).toNat by have h : (13 : UInt8).toNat = 13 := rfl; omega))
        repeat' (first | with_reducible refine And.intro ?_ ?_ | ((with_reducible intro hc); (try simp only [zA, zB, zC, zD, zE, zF, zG, zH, zI, zJ, zK, zL, zM, zN, zO, zP, zQ, zR, zS, zT, zU, zV, zW] at hc); (first | (exact absurd rfl hc) | (exact absurd trivial hc) | (exfalso; omega) | skip)) | exact Is.mk rfl rfl | ((conv => whnf); first | with_reducible refine And.intro ?_ ?_ | with_reducible intro hx | exact Is.mk rfl rfl | (with_reducible first | apply Val.via | apply ValH.via) | refine ifB_intro ?_ ?_ | refine xA (by omega) ?_ | ((refine xB ?_); intro kw hk1 hk2) | refine xC (by omega) ?_ | refine xD ?_ | refine xE (by omega) ?_ | refine xF (by omega) ?_ | refine xG ?_ | refine xH ?_ | refine xI (by omega) ?_ | refine xJ (by omega) ?_ | (with_reducible refine stopA ?_) | refine Exists.intro _ (And.intro (by (first | (simp only [hpz]; exact hd) | exact vat_of rfl rfl rfl | rfl)) ?_) | refine GOp.drawn (by rfl) (by rfl) (Nat.le_of_ble_eq_true (by rfl)) (by rfl) | refine GOp.via (by rfl) ?_ | refine GWP.drawY mixed _ (by kernel_rfl) (by rfl) ?_ | (refine GCall.mk ((hra _).mono ?_); rintro _ _ ⟨rfl, rfl⟩) | (with_reducible first | refine stopO ?_ | refine stopE ?_ | refine stopD ?_ | refine stopW ?_ | refine stopG ?_ | refine stopC ?_ | refine stopR ?_)))
        all_goals (first | omega | contradiction | (exfalso; exact hpn hc) | (exfalso; exact hr hc) | skip)
        have hee : herr p acc.length = if (cutB p 58).2.2 then hwrong (hfield p) acc.length else 2 := rfl
        have hff : hfield p = ((cutB p 58).1, trimB (cutB p 58).2.1) := rfl
        rw [hee, hff] at h2
        have hat := fun H => rat_call p 58 H (by omega)
        have hcl := cutB_len p 58
        have htl := (trimB_sub (cutB p 58).2.1).length_le
        have htr := fun H => rtrim_call (cutB p 58).2.1 (by omega) H
        have hwr := fun H => rwrong_call (cutB p 58).1 (trimB (cutB p 58).2.1) acc.length (by omega) (by omega) (by omega) H
        clear hff hee
        generalize trimB (cutB p 58).2.1 = val at *
        generalize (cutB p 58).1 = nm at *
        generalize (cutB p 58).2.1 = v0 at *
        generalize hwrong (nm, val) acc.length = e at *
        cases hfd : (cutB p 58).2.2 with
        | false =>
          rw [hfd] at hat h2
          rw [if_neg (show ¬ (if false = true then e else 2) = 0 by simp)] at h2
          refine GCall'.mk ((hat _).mono ?_)
          rintro _ _ ⟨rfl, rfl⟩
          repeat' (first | with_reducible refine And.intro ?_ ?_ | ((with_reducible intro hc); (try simp only [zA, zB, zC, zD, zE, zF, zG, zH, zI, zJ, zK, zL, zM, zN, zO, zP, zQ, zR, zS, zT, zU, zV, zW] at hc); (first | (exact absurd rfl hc) | (exact absurd trivial hc) | (exfalso; omega) | skip)) | exact Is.mk rfl rfl | ((conv => whnf); first | with_reducible refine And.intro ?_ ?_ | with_reducible intro hx | exact Is.mk rfl rfl | (with_reducible first | apply Val.via | apply ValH.via) | refine ifB_intro ?_ ?_ | refine xA (by omega) ?_ | ((refine xB ?_); intro kw hk1 hk2) | refine xC (by omega) ?_ | refine xD ?_ | refine xE (by omega) ?_ | refine xF (by omega) ?_ | refine xG ?_ | refine xH ?_ | refine xI (by omega) ?_ | refine xJ (by omega) ?_ | (with_reducible refine stopA ?_) | refine Exists.intro _ (And.intro (by (first | exact vat_of rfl rfl rfl | rfl)) ?_) | refine GOp.drawn (by rfl) (by rfl) (Nat.le_of_ble_eq_true (by rfl)) (by rfl) | refine GOp.via (by rfl) ?_ | refine GWP.drawY mixed _ (by kernel_rfl) (by rfl) ?_ | (first | (refine GCall.mk ((htr _).mono ?_); rintro _ _ ⟨rfl, rfl⟩)) | (with_reducible first | refine stopO ?_ | refine stopE ?_ | refine stopD ?_ | refine stopW ?_ | refine stopG ?_ | refine stopC ?_ | refine stopR ?_)))
          (all_goals (first | omega | skip))
          rw [← h2]
          exact Done'.mk (frz_rerr 2)
        | true =>
          rw [hfd] at hat h2
          simp only [if_true] at h2
          by_cases he : e = 0
          · rw [if_pos he] at h2
            subst he
            refine GCall'.mk ((hat _).mono ?_)
            rintro _ _ ⟨rfl, rfl⟩
            repeat' (first | with_reducible refine And.intro ?_ ?_ | ((with_reducible intro hc); (try simp only [zA, zB, zC, zD, zE, zF, zG, zH, zI, zJ, zK, zL, zM, zN, zO, zP, zQ, zR, zS, zT, zU, zV, zW] at hc); (first | (exact absurd rfl hc) | (exact absurd trivial hc) | (exfalso; omega) | skip)) | exact Is.mk rfl rfl | ((conv => whnf); first | with_reducible refine And.intro ?_ ?_ | with_reducible intro hx | exact Is.mk rfl rfl | (with_reducible first | apply Val.via | apply ValH.via) | refine ifB_intro ?_ ?_ | refine xA (by omega) ?_ | ((refine xB ?_); intro kw hk1 hk2) | refine xC (by omega) ?_ | refine xD ?_ | refine xE (by omega) ?_ | refine xF (by omega) ?_ | refine xG ?_ | refine xH ?_ | refine xI (by omega) ?_ | refine xJ (by omega) ?_ | (with_reducible refine stopA ?_) | refine Exists.intro _ (And.intro (by (first | exact vat_of rfl rfl rfl | rfl)) ?_) | refine GOp.drawn (by rfl) (by rfl) (Nat.le_of_ble_eq_true (by rfl)) (by rfl) | refine GOp.via (by rfl) ?_ | refine GWP.drawY mixed _ (by kernel_rfl) (by rfl) ?_ | (first | (refine GCall.mk ((htr _).mono ?_); rintro _ _ ⟨rfl, rfl⟩) | (refine GCall.mk ((hwr _).mono ?_); rintro _ _ ⟨rfl, rfl⟩) | (refine stopO (GOp'.grow rfl sty_R (d := .slice 98) Tryd.underlying79 (by intro k h; cases h) rfl (m := 1) (l := [strV nm, strV val]) (by rfl) (by rfl) rfl (rowsS_len acc) (by omega) (by omega) ?_))) | (with_reducible first | refine stopO ?_ | refine stopE ?_ | refine stopD ?_ | refine stopW ?_ | refine stopG ?_ | refine stopC ?_ | refine stopR ?_)))
            (all_goals (first | omega | skip))
            focus (refine Done'.mk ⟨(acc ++ [(nm, val)], rest), ⟨by simp only [List.length_append, List.length_cons, List.length_nil]; omega, h2⟩, ?_, KeptA.of [(4, 1)] rfl rfl (by repeat' (first | exact trivial | refine And.intro rfl ?_)) rfl ?_ ?_⟩; (first | omega | (simp only; omega)); all_goals (repeat' (first | exact trivial | (refine And.intro ?_ ?_) | (refine Exists.intro _ (And.intro rfl ?_)) | (refine RenO.opt ?_) | (refine RenO.toOpt ?_) | (refine RenO.cells ?_) | exact RenO.defs | exact RenL.nil | (refine RenL.cons ?_ ?_) | (first | (first | exact RenL.eq (rowsS_snoc acc (nm, val)).symm (rowsS_nameless _) | exact RenV.of (nameless_strV _) | exact RenV.eq (scI_eq (by omega)) (nameless_sc _)) | (with_reducible exact RenV.sc) | exact RenV.gsN | exact RenV.gsZ | exact RenV.gsL (by decide) | exact RenV.slL (by decide) | ((first | refine RenV.gsE (by (first | exact List.Mem.head _ | exact List.Mem.tail _ (List.Mem.head _) | exact List.Mem.tail _ (List.Mem.tail _ (List.Mem.head _)) | (simp; done))) ?_ | refine RenV.eq (scI_eq ?_) (nameless_sc _)); (first | rfl | omega | (simp only [List.length_append, List.length_cons, List.length_nil, List.length_map, List.length_take, List.length_drop] <;> omega) | (simp only <;> omega) | (simp <;> omega))) | exact RenV.undef) | (with_unfolding_all exact (rfl : (_ : VObj) = _)))))
          · rw [if_neg he] at h2
            refine GCall'.mk ((hat _).mono ?_)
            rintro _ _ ⟨rfl, rfl⟩
            repeat' (first | with_reducible refine And.intro ?_ ?_ | ((with_reducible intro hc); (try simp only [zA, zB, zC, zD, zE, zF, zG, zH, zI, zJ, zK, zL, zM, zN, zO, zP, zQ, zR, zS, zT, zU, zV, zW] at hc); (first | (exact absurd rfl hc) | (exact absurd trivial hc) | (exfalso; omega) | skip)) | exact Is.mk rfl rfl | ((conv => whnf); first | with_reducible refine And.intro ?_ ?_ | with_reducible intro hx | exact Is.mk rfl rfl | (with_reducible first | apply Val.via | apply ValH.via) | refine ifB_intro ?_ ?_ | refine xA (by omega) ?_ | ((refine xB ?_); intro kw hk1 hk2) | refine xC (by omega) ?_ | refine xD ?_ | refine xE (by omega) ?_ | refine xF (by omega) ?_ | refine xG ?_ | refine xH ?_ | refine xI (by omega) ?_ | refine xJ (by omega) ?_ | (with_reducible refine stopA ?_) | refine Exists.intro _ (And.intro (by (first | exact vat_of rfl rfl rfl | rfl)) ?_) | refine GOp.drawn (by rfl) (by rfl) (Nat.le_of_ble_eq_true (by rfl)) (by rfl) | refine GOp.via (by rfl) ?_ | refine GWP.drawY mixed _ (by kernel_rfl) (by rfl) ?_ | (first | (refine GCall.mk ((htr _).mono ?_); rintro _ _ ⟨rfl, rfl⟩) | (refine GCall.mk ((hwr _).mono ?_); rintro _ _ ⟨rfl, rfl⟩)) | (with_reducible first | refine stopO ?_ | refine stopE ?_ | refine stopD ?_ | refine stopW ?_ | refine stopG ?_ | refine stopC ?_ | refine stopR ?_)))
            (all_goals (first | omega | skip))
            rw [← h2]
            exact Done'.mk (frz_rerr e)
end Go.Proofs.YtmmjgbdihgdekaaDoor

/- The document's Values; the law's comparison of texts. -/
namespace Go.Proofs.YtmmjgbdihgdekaaDoor
open Go Go.RowKit
set_option linter.unusedSimpArgs false
set_option linter.unusedVariables false
set_option maxRecDepth 100000
set_option maxHeartbeats 4000000
theorem rows2_at (a b : HF → VV) : ∀ (l : List HF) (i : Nat) (f : HF), l[i]? = some f → ((l.flatMap fun f => [a f, b f]).drop (i * 2)).take 2 = [a f, b f] ∧ i * 2 + 2 ≤ (l.flatMap fun f => [a f, b f]).length
  | [], i, f, h => by simp at h
  | x :: l, 0, f, h => by
    simp at h
    subst h
    rw [List.flatMap_cons]
    refine ⟨rfl, ?_⟩
    simp
  | x :: l, i + 1, f, h => by
    have ih := rows2_at a b l i f (by simpa using h)
    rw [List.flatMap_cons, show (i + 1) * 2 = (i * 2) + 1 + 1 by omega]
    refine ⟨ih.1, ?_⟩
    have := ih.2
    simp only [List.length_append, List.length_cons, List.length_nil] at this ⊢
    omega
theorem vat_rowsS {l : List HF} {i o : Nat} {f : HF} (h : l[i]? = some f) (ho : o = i * 2) : vat Tryd.prog 98 (rowsS l) o = some (.ag [strV f.1, strV f.2]) := by
  subst ho
  obtain ⟨h1, h2⟩ := rows2_at (fun f => strV f.1) (fun f => strV f.2) l i f h
  have h0 : vagg Tryd.prog 98 = some true := by kernel_rfl
  have hz : vsize Tryd.prog 98 = some 2 := by kernel_rfl
  have h3 : Nat.ble (i * 2 + 2) (rowsS l).length = true := Nat.ble_eq_true_of_le h2
  simp only [vat, h0, hz, h3]
  exact congrArg (fun x => some (VV.ag x)) h1
theorem vat_rowsF {l : List HF} {i o : Nat} {f : HF} (h : l[i]? = some f) (ho : o = i * 2) : vat Tryd.prog 97 (rowsF l) o = some (.ag [roB f.1, roB f.2]) := by
  subst ho
  obtain ⟨h1, h2⟩ := rows2_at (fun f => roB f.1) (fun f => roB f.2) l i f h
  have h0 : vagg Tryd.prog 97 = some true := by kernel_rfl
  have hz : vsize Tryd.prog 97 = some 2 := by kernel_rfl
  have h3 : Nat.ble (i * 2 + 2) (rowsF l).length = true := Nat.ble_eq_true_of_le h2
  simp only [vat, h0, hz, h3]
  exact congrArg (fun x => some (VV.ag x)) h1
end Go.Proofs.YtmmjgbdihgdekaaDoor

