import Derived.Test.YtmmjgbdihgdekaaDoorG6
import Derived.Test.YtmmjgbdihgdekaaDoorGb
import Derived.Test.YtmmjgbdihgdekaaDoorG4
import Derived.Test.YtmmjgbdihgdekaaDoorGd
import Derived.Test.YtmmjgbdihgdekaaDoorE3
import Derived.Deep.SlicePairs
/- The law HeaderBack, walked. -/
namespace Go.Proofs.YtmmjgbdihgdekaaDoor
open Go Go.RowKit
set_option linter.unusedSimpArgs false
set_option linter.unusedVariables false
set_option maxRecDepth 100000
set_option maxHeartbeats 16000000
theorem parse3_call (t : List UInt8) (ht : t.length ≤ 20000) (h0 : t.length ≠ 0) (a b : VObj) {n : Nat} {vs : List VV} (hn : n = t.length) (hv : vs = t.map bV) : VCall Tryd.prog 43 [.gs 3 n 1] ⟨[(3, .opt vs), (1, a), (0, b)], 4⟩ (fun v K => v = hresV (hparse t) ∧ K = ⟨[(3, .opt vs), (1, a), (0, b)], 4⟩) := by
  subst hn hv
  refine VCall.gsB (b := 3) (Q := fun v => v = hresV (hparse t)) (vs := t.map bV) rfl h0 ?_
  change VCall Tryd.prog 43 [.sl 3 0 t.length none 1] ⟨[(3, .cells true (t.map bV)), (1, a), (0, b)], 4⟩ (fun v K => v = hresV (hparse t) ∧ K = ⟨[(3, .cells true (t.map bV)), (1, a), (0, b)], 4⟩)
  refine VCall.at (n1 := 1) (O1 := [(0, .cells true (t.map bV))]) [3] [(3, 0)] rfl ⟨⟨_, rfl, .cells (.of (nameless_map nameless_bV t))⟩, trivial⟩ (.cons (.sl (List.Mem.head _)) .nil) (parseN0_call t ht) ?_
  rintro v K ⟨rfl, rfl⟩
  exact ⟨hresV (hparse t), [(3, .cells true (t.map bV))], ⟨rfl, .of (nameless_hresV _), ⟨⟨_, rfl, .cells (.of (nameless_map nameless_bV t))⟩, trivial⟩⟩, rfl, rfl, rfl⟩
theorem sameG_call {H : Heap} {b : Nat} (x y : List HF) (hl : x.length ≤ 1000000) (hg : H.get b = some (.opt (rowsS y))) : VCall Tryd.prog 50 [.ro x.length (rowsS x), .gs b y.length 2] H (fun v K => v = booV (x == y) ∧ K = H) :=
  VCall.viewed (args' := [.ro x.length (rowsS x), .ro y.length (rowsS y)]) (Q := fun v K => v = booV (x == y)) (.cons (View.of (nameless_ro (rowsS_nameless x))) (.cons (View.gs hg (rowsS_len y) (rowsS_nameless y)) .nil)) ((same11_call x y _ hl).mono fun v K h => h.1) (fun v K e => by subst e; exact Frx.of (exact_sc _))
theorem headerBack_walk (l : List HF) (body : List UInt8) (hf0 : ∀ f ∈ l, f.1.length ≤ 9223372036854775807 ∧ f.2.length ≤ 9223372036854775807) : VCall Tryd.prog 10 [.ro l.length (rowsF l), roB body] ⟨[], 0⟩ (fun v _ => v = .sc (.bool true)) := by
  by_cases hlb : l.length ≤ 70 ∧ body.length ≤ 500
  · obtain ⟨hl, hb⟩ := hlb
    refine VCall.go Tryd.func10 rfl ?_
    repeat' (first | with_reducible refine And.intro ?_ ?_ | ((with_reducible intro hc); (try simp only [zA, zB, zC, zD, zE, zF, zG, zH, zI, zJ, zK, zL, zM, zN, zO, zP, zQ, zR, zS, zT, zU, zV, zW] at hc); (first | (exact absurd rfl hc) | (exact absurd trivial hc) | (exfalso; omega) | skip)) | exact Is.mk rfl rfl | ((conv => whnf); first | with_reducible refine And.intro ?_ ?_ | with_reducible intro hx | exact Is.mk rfl rfl | (with_reducible first | apply Val.via | apply ValH.via) | refine ifB_intro ?_ ?_ | refine xA (by omega) ?_ | ((refine xB ?_); intro kw hk1 hk2) | refine xC (by omega) ?_ | refine xD ?_ | refine xE (by omega) ?_ | refine xF (by omega) ?_ | refine xG ?_ | refine xH ?_ | refine xI (by omega) ?_ | refine xJ (by omega) ?_ | (with_reducible refine stopA ?_) | refine Exists.intro _ (And.intro (by (first | exact vat_of rfl rfl rfl | exact vbytes_map body | rfl)) ?_) | refine GOp.drawn (by rfl) (by rfl) (Nat.le_of_ble_eq_true (by rfl)) (by rfl) | refine GOp.via (by rfl) ?_ | refine GWP.drawY mixed _ (by kernel_rfl) (by rfl) ?_ | (first | (refine GCall.mk ((lives11_call _).mono ?_); rintro _ _ ⟨rfl, rfl⟩)) | (with_reducible first | refine stopO ?_ | refine stopE ?_ | refine stopD ?_ | refine stopW ?_ | refine stopG ?_ | refine stopC ?_ | refine stopR ?_)))
    (all_goals (first | omega | (rw [List.length_map]; done) | (rw [List.length_map]; omega) | skip))
    (refine GWP'.mk (GWP.loopB [] (fun (s : Nat × Nat) => s.1 ≤ l.length ∧ (∀ f ∈ l.take s.1, f.1.length ≤ 100 ∧ f.2.length ≤ 100) ∧ (if s.2 = 0 then ofGo (l.drop s.1) s.1 else s.2) = ofGo l 0) (fun s => [(5, iV s.2), (6, .gs 0 s.1 2), (30, iV s.1)]) (fun s => [(0, .opt (rowsS (l.take s.1)))]) 1 (fun s => l.length - s.1) (0, 0) ⟨Nat.zero_le _, (by simp), rfl⟩ ?_); (conv => whnf); refine And.intro ?_ ?_)
    · focus (refine KeptA.of [] rfl rfl (by repeat' (first | exact trivial | refine And.intro rfl ?_)) rfl ?_ ?_; all_goals (repeat' (first | exact trivial | (refine And.intro ?_ ?_) | (refine Exists.intro _ (And.intro rfl ?_)) | (refine RenO.opt ?_) | (refine RenO.toOpt ?_) | (refine RenO.cells ?_) | exact RenO.defs | exact RenL.nil | (refine RenL.cons ?_ ?_) | (first | fail | (with_reducible exact RenV.sc) | exact RenV.gsN | exact RenV.gsZ | exact RenV.gsL (by decide) | exact RenV.slL (by decide) | ((first | refine RenV.gsE (by (first | exact List.Mem.head _ | exact List.Mem.tail _ (List.Mem.head _) | exact List.Mem.tail _ (List.Mem.tail _ (List.Mem.head _)) | (simp; done))) ?_ | refine RenV.eq (scI_eq ?_) (nameless_sc _)); (first | rfl | omega | (simp only [List.length_append, List.length_cons, List.length_nil, List.length_map, List.length_take, List.length_drop] <;> omega) | (simp only <;> omega) | (simp <;> omega))) | exact RenV.undef) | (with_unfolding_all exact (rfl : (_ : VObj) = _)))))
    rintro ⟨i, wv⟩ ⟨h1, h3, h4⟩
    simp only at h1 h3 h4 ⊢
    by_cases hil : i < l.length
    · obtain ⟨f, hfi⟩ : ∃ f, l[i]? = some f := ⟨l[i], List.getElem?_eq_getElem hil⟩
      have hfm := List.mem_of_getElem? hfi
      have hf1 := hf0 f hfm
      have hnx : l.take (i + 1) = l.take i ++ [f] := by
        obtain ⟨hi, e⟩ := List.getElem?_eq_some_iff.1 hfi
        rw [List.take_succ_eq_append_getElem hi, e]
      have hrl : (rowsS (l.take i)).length = i * 2 := by rw [rowsS_len, List.length_take, Nat.min_eq_left (by omega)]
      obtain ⟨nm, val⟩ := f
      simp only at hf1
      by_cases hs : nm.length ≤ 100 ∧ val.length ≤ 100
      · have h5 : ∀ f ∈ l.take (i + 1), f.1.length ≤ 100 ∧ f.2.length ≤ 100 := fun f hf => by
          rw [hnx] at hf
          rcases List.mem_append.1 hf with hf | hf
          · exact h3 f hf
          · rw [List.mem_singleton.1 hf]; exact hs
        have hwr := fun H => rwrong_call nm val i (by omega) (by omega) (by omega) H
        rw [ofGo_at hfi] at h4
        generalize hrw : rowsS (l.take i) = rows at *
        by_cases hw : wv = 0
        · subst hw
          generalize hwrong (nm, val) i = e at *
          rw [if_pos rfl] at h4
          repeat' (first | with_reducible refine And.intro ?_ ?_ | ((with_reducible intro hc); (try simp only [zA, zB, zC, zD, zE, zF, zG, zH, zI, zJ, zK, zL, zM, zN, zO, zP, zQ, zR, zS, zT, zU, zV, zW] at hc); (first | (exact absurd rfl hc) | (exact absurd trivial hc) | (exfalso; omega) | skip)) | exact Is.mk rfl rfl | ((conv => whnf); first | with_reducible refine And.intro ?_ ?_ | with_reducible intro hx | exact Is.mk rfl rfl | (with_reducible first | apply Val.via | apply ValH.via) | refine ifB_intro ?_ ?_ | refine xA (by omega) ?_ | ((refine xB ?_); intro kw hk1 hk2) | refine xC (by omega) ?_ | refine xD ?_ | refine xE (by omega) ?_ | refine xF (by omega) ?_ | refine xG ?_ | refine xH ?_ | refine xI (by omega) ?_ | refine xJ (by omega) ?_ | (with_reducible refine stopA ?_) | refine Exists.intro _ (And.intro (by (first | exact vat_rowsF hfi rfl | exact vat_of rfl rfl rfl | exact vbytes_map nm | exact vbytes_map val | exact vbytes_map body | rfl)) ?_) | refine GOp.drawn (by rfl) (by rfl) (Nat.le_of_ble_eq_true (by rfl)) (by rfl) | refine GOp.via (by rfl) ?_ | refine GWP.drawY mixed _ (by kernel_rfl) (by rfl) ?_ | (first | (refine GCall.mk ((hwr _).mono ?_); rintro _ _ ⟨rfl, rfl⟩) | (refine stopO (GOp'.grow rfl sty_R (d := .slice 98) Tryd.underlying79 (by intro k h; cases h) rfl (m := 1) (l := [strV nm, strV val]) (by rfl) (by rfl) rfl hrl (by omega) (by omega) ?_))) | (with_reducible first | refine stopO ?_ | refine stopE ?_ | refine stopD ?_ | refine stopW ?_ | refine stopG ?_ | refine stopC ?_ | refine stopR ?_)))
          (all_goals (first | omega | (rw [List.length_map]; done) | (rw [List.length_map]; omega) | skip))
          focus (refine Done'.mk ⟨(i + 1, e), ⟨by simp only; omega, h5, h4⟩, ?_, KeptA.of [(4, 0)] rfl rfl (by repeat' (first | exact trivial | refine And.intro rfl ?_)) rfl ?_ ?_⟩; (first | omega | (simp only; omega)); all_goals (repeat' (first | exact trivial | (refine And.intro ?_ ?_) | (refine Exists.intro _ (And.intro rfl ?_)) | (refine RenO.opt ?_) | (refine RenO.toOpt ?_) | (refine RenO.cells ?_) | exact RenO.defs | exact RenL.nil | (refine RenL.cons ?_ ?_) | (first | (first | exact RenL.eq (by rw [hnx, rowsS_snoc, hrw]) (rowsS_nameless _) | exact RenV.eq (scI_eq (by omega)) (nameless_sc _)) | (with_reducible exact RenV.sc) | exact RenV.gsN | exact RenV.gsZ | exact RenV.gsL (by decide) | exact RenV.slL (by decide) | ((first | refine RenV.gsE (by (first | exact List.Mem.head _ | exact List.Mem.tail _ (List.Mem.head _) | exact List.Mem.tail _ (List.Mem.tail _ (List.Mem.head _)) | (simp; done))) ?_ | refine RenV.eq (scI_eq ?_) (nameless_sc _)); (first | rfl | omega | (simp only [List.length_append, List.length_cons, List.length_nil, List.length_map, List.length_take, List.length_drop] <;> omega) | (simp only <;> omega) | (simp <;> omega))) | exact RenV.undef) | (with_unfolding_all exact (rfl : (_ : VObj) = _)))))
        · rw [if_neg hw] at h4
          repeat' (first | with_reducible refine And.intro ?_ ?_ | ((with_reducible intro hc); (try simp only [zA, zB, zC, zD, zE, zF, zG, zH, zI, zJ, zK, zL, zM, zN, zO, zP, zQ, zR, zS, zT, zU, zV, zW] at hc); (first | (exact absurd rfl hc) | (exact absurd trivial hc) | (exfalso; omega) | skip)) | exact Is.mk rfl rfl | ((conv => whnf); first | with_reducible refine And.intro ?_ ?_ | with_reducible intro hx | exact Is.mk rfl rfl | (with_reducible first | apply Val.via | apply ValH.via) | refine ifB_intro ?_ ?_ | refine xA (by omega) ?_ | ((refine xB ?_); intro kw hk1 hk2) | refine xC (by omega) ?_ | refine xD ?_ | refine xE (by omega) ?_ | refine xF (by omega) ?_ | refine xG ?_ | refine xH ?_ | refine xI (by omega) ?_ | refine xJ (by omega) ?_ | (with_reducible refine stopA ?_) | refine Exists.intro _ (And.intro (by (first | exact vat_rowsF hfi rfl | exact vat_of rfl rfl rfl | exact vbytes_map nm | exact vbytes_map val | exact vbytes_map body | rfl)) ?_) | refine GOp.drawn (by rfl) (by rfl) (Nat.le_of_ble_eq_true (by rfl)) (by rfl) | refine GOp.via (by rfl) ?_ | refine GWP.drawY mixed _ (by kernel_rfl) (by rfl) ?_ | (first | (refine GCall.mk ((hwr _).mono ?_); rintro _ _ ⟨rfl, rfl⟩) | (refine stopO (GOp'.grow rfl sty_R (d := .slice 98) Tryd.underlying79 (by intro k h; cases h) rfl (m := 1) (l := [strV nm, strV val]) (by rfl) (by rfl) rfl hrl (by omega) (by omega) ?_))) | (with_reducible first | refine stopO ?_ | refine stopE ?_ | refine stopD ?_ | refine stopW ?_ | refine stopG ?_ | refine stopC ?_ | refine stopR ?_)))
          (all_goals (first | omega | (rw [List.length_map]; done) | (rw [List.length_map]; omega) | skip))
          focus (refine Done'.mk ⟨(i + 1, wv), ⟨by simp only; omega, h5, by simp only; rw [if_neg hw]; exact h4⟩, ?_, KeptA.of [(4, 0)] rfl rfl (by repeat' (first | exact trivial | refine And.intro rfl ?_)) rfl ?_ ?_⟩; (first | omega | (simp only; omega)); all_goals (repeat' (first | exact trivial | (refine And.intro ?_ ?_) | (refine Exists.intro _ (And.intro rfl ?_)) | (refine RenO.opt ?_) | (refine RenO.toOpt ?_) | (refine RenO.cells ?_) | exact RenO.defs | exact RenL.nil | (refine RenL.cons ?_ ?_) | (first | (first | exact RenL.eq (by rw [hnx, rowsS_snoc, hrw]) (rowsS_nameless _) | exact RenV.eq (scI_eq (by omega)) (nameless_sc _)) | (with_reducible exact RenV.sc) | exact RenV.gsN | exact RenV.gsZ | exact RenV.gsL (by decide) | exact RenV.slL (by decide) | ((first | refine RenV.gsE (by (first | exact List.Mem.head _ | exact List.Mem.tail _ (List.Mem.head _) | exact List.Mem.tail _ (List.Mem.tail _ (List.Mem.head _)) | (simp; done))) ?_ | refine RenV.eq (scI_eq ?_) (nameless_sc _)); (first | rfl | omega | (simp only [List.length_append, List.length_cons, List.length_nil, List.length_map, List.length_take, List.length_drop] <;> omega) | (simp only <;> omega) | (simp <;> omega))) | exact RenV.undef) | (with_unfolding_all exact (rfl : (_ : VObj) = _)))))
      · repeat' (first | with_reducible refine And.intro ?_ ?_ | ((with_reducible intro hc); (try simp only [zA, zB, zC, zD, zE, zF, zG, zH, zI, zJ, zK, zL, zM, zN, zO, zP, zQ, zR, zS, zT, zU, zV, zW] at hc); (first | (exact absurd rfl hc) | (exact absurd trivial hc) | (exfalso; omega) | skip)) | exact Is.mk rfl rfl | ((conv => whnf); first | with_reducible refine And.intro ?_ ?_ | with_reducible intro hx | exact Is.mk rfl rfl | (with_reducible first | apply Val.via | apply ValH.via) | refine ifB_intro ?_ ?_ | refine xA (by omega) ?_ | ((refine xB ?_); intro kw hk1 hk2) | refine xC (by omega) ?_ | refine xD ?_ | refine xE (by omega) ?_ | refine xF (by omega) ?_ | refine xG ?_ | refine xH ?_ | refine xI (by omega) ?_ | refine xJ (by omega) ?_ | (with_reducible refine stopA ?_) | refine Exists.intro _ (And.intro (by (first | exact vat_rowsF hfi rfl | exact vat_of rfl rfl rfl | exact vbytes_map nm | exact vbytes_map val | exact vbytes_map body | rfl)) ?_) | refine GOp.drawn (by rfl) (by rfl) (Nat.le_of_ble_eq_true (by rfl)) (by rfl) | refine GOp.via (by rfl) ?_ | refine GWP.drawY mixed _ (by kernel_rfl) (by rfl) ?_ | fail | (with_reducible first | refine stopO ?_ | refine stopE ?_ | refine stopD ?_ | refine stopW ?_ | refine stopG ?_ | refine stopC ?_ | refine stopR ?_)))
        all_goals (first | omega | exact Done'.mk rfl | skip)
    · obtain rfl : i = l.length := by omega
      rw [List.take_length] at *
      rw [List.drop_length] at h4
      have h4 : wv = ofGo l 0 := by
        rw [← h4]
        split
        · assumption
        · rfl
      subst h4
      have hf2 : ∀ f ∈ l, f.1.length ≤ 10000 ∧ f.2.length ≤ 10000 := fun f hf => by have := h3 f hf; omega
      have hof := fun H => of_call (fun x H hx => containsAny_call x H (by omega)) l (by omega) hf2 H
      unfold ofV' at hof
      by_cases he : ofGo l 0 = 0
      · rw [if_pos he] at hof
        generalize hgo0 : ofGo l 0 = e0 at *
        subst he
        have htx := fun H => textN_call l (by omega) hf2 H
        have hlen := txtsF_len 100 l h3
        have htl : (txtH l).length ≤ 15000 := by rw [txtH_len]; omega
        have hpt := hparse_txt (body := body) hgo0
        have ht0 := txtH_len l
        have hpp := fun a b => parse3_call (txtH l ++ body) (by rw [List.length_append]; omega) (by rw [List.length_append]; omega) a b (n := (txtH l).length + body.length) (vs := (txtH l).map bV ++ body.map bV) List.length_append.symm (List.map_append).symm
        rw [hpt] at hpp
        have ha := fun H => allh_call l H
        have hal := fun H => all11_call l (by omega) hf2 H
        have hsm := fun (H : Heap) (hg : H.get 0 = some (.opt (rowsS l))) => sameG_call (H := H) (b := 0) l l (by omega) hg
        rw [show (l == l) = true by simp] at hsm
        repeat' (first | with_reducible refine And.intro ?_ ?_ | ((with_reducible intro hc); (try simp only [zA, zB, zC, zD, zE, zF, zG, zH, zI, zJ, zK, zL, zM, zN, zO, zP, zQ, zR, zS, zT, zU, zV, zW] at hc); (first | (exact absurd rfl hc) | (exact absurd trivial hc) | (exfalso; omega) | skip)) | exact Is.mk rfl rfl | ((conv => whnf); first | with_reducible refine And.intro ?_ ?_ | with_reducible intro hx | exact Is.mk rfl rfl | (with_reducible first | apply Val.via | apply ValH.via) | refine ifB_intro ?_ ?_ | refine xA (by omega) ?_ | ((refine xB ?_); intro kw hk1 hk2) | refine xC (by omega) ?_ | refine xD ?_ | refine xE (by omega) ?_ | refine xF (by omega) ?_ | refine xG ?_ | refine xH ?_ | refine xI (by omega) ?_ | refine xJ (by omega) ?_ | (with_reducible refine stopA ?_) | refine Exists.intro _ (And.intro (by (first | exact vat_of rfl rfl rfl | exact vbytes_map body | rfl)) ?_) | refine GOp.drawn (by rfl) (by rfl) (Nat.le_of_ble_eq_true (by rfl)) (by rfl) | refine GOp.via (by rfl) ?_ | refine GWP.drawY mixed _ (by kernel_rfl) (by rfl) ?_ | (first | (refine GCall.mk ((hof _).mono ?_); rintro _ _ ⟨rfl, rfl⟩) | (refine GCall.mk ((htx _).mono ?_); rintro _ _ ⟨rfl, rfl⟩) | (refine stopO (GOp'.grow rfl sty_b (d := .slice 5) Tryd.underlying22 (by intro k h; cases h) rfl (velems_roB body _) (one_map body) rfl (by simp) (by omega) (by omega) ?_))) | (with_reducible first | refine stopO ?_ | refine stopE ?_ | refine stopD ?_ | refine stopW ?_ | refine stopG ?_ | refine stopC ?_ | refine stopR ?_)))
        (all_goals (first | omega | (rw [List.length_map]; done) | (rw [List.length_map]; omega) | skip))
        refine GCall'.mk ((hpp (.cells true [.ro l.length (rowsF l)]) (.opt (rowsS l))).mono ?_)
        rintro _ _ ⟨rfl, rfl⟩
        repeat' (first | with_reducible refine And.intro ?_ ?_ | ((with_reducible intro hc); (try simp only [zA, zB, zC, zD, zE, zF, zG, zH, zI, zJ, zK, zL, zM, zN, zO, zP, zQ, zR, zS, zT, zU, zV, zW] at hc); (first | (exact absurd rfl hc) | (exact absurd trivial hc) | (exfalso; omega) | skip)) | exact Is.mk rfl rfl | ((conv => whnf); first | with_reducible refine And.intro ?_ ?_ | with_reducible intro hx | exact Is.mk rfl rfl | (with_reducible first | apply Val.via | apply ValH.via) | refine ifB_intro ?_ ?_ | refine xA (by omega) ?_ | ((refine xB ?_); intro kw hk1 hk2) | refine xC (by omega) ?_ | refine xD ?_ | refine xE (by omega) ?_ | refine xF (by omega) ?_ | refine xG ?_ | refine xH ?_ | refine xI (by omega) ?_ | refine xJ (by omega) ?_ | (with_reducible refine stopA ?_) | refine Exists.intro _ (And.intro (by (first | exact vat_of rfl rfl rfl | exact vbytes_map body | rfl)) ?_) | refine GOp.drawn (by rfl) (by rfl) (Nat.le_of_ble_eq_true (by rfl)) (by rfl) | refine GOp.via (by rfl) ?_ | refine GWP.drawY mixed _ (by kernel_rfl) (by rfl) ?_ | (first | (refine GCall.mk ((ha _).mono ?_); rintro _ _ ⟨rfl, rfl⟩) | (refine GCall.mk ((hal _).mono ?_); rintro _ _ ⟨rfl, rfl⟩) | (refine GCall.mk ((hsm _ rfl).mono ?_); rintro _ _ ⟨rfl, rfl⟩)) | (with_reducible first | refine stopO ?_ | refine stopE ?_ | refine stopD ?_ | refine stopW ?_ | refine stopG ?_ | refine stopC ?_ | refine stopR ?_)))
        (all_goals (first | omega | (rw [List.length_map]; done) | (rw [List.length_map]; omega) | skip))
        all_goals (first | exact Done'.mk rfl | exact Done'.mk (congrArg (fun b => VV.sc (.bool b)) (beq_self_eq_true _)))
      · rw [if_neg he] at hof
        generalize ofGo l 0 = e at *
        repeat' (first | with_reducible refine And.intro ?_ ?_ | ((with_reducible intro hc); (try simp only [zA, zB, zC, zD, zE, zF, zG, zH, zI, zJ, zK, zL, zM, zN, zO, zP, zQ, zR, zS, zT, zU, zV, zW] at hc); (first | (exact absurd rfl hc) | (exact absurd trivial hc) | (exfalso; omega) | skip)) | exact Is.mk rfl rfl | ((conv => whnf); first | with_reducible refine And.intro ?_ ?_ | with_reducible intro hx | exact Is.mk rfl rfl | (with_reducible first | apply Val.via | apply ValH.via) | refine ifB_intro ?_ ?_ | refine xA (by omega) ?_ | ((refine xB ?_); intro kw hk1 hk2) | refine xC (by omega) ?_ | refine xD ?_ | refine xE (by omega) ?_ | refine xF (by omega) ?_ | refine xG ?_ | refine xH ?_ | refine xI (by omega) ?_ | refine xJ (by omega) ?_ | (with_reducible refine stopA ?_) | refine Exists.intro _ (And.intro (by (first | exact vat_of rfl rfl rfl | exact vbytes_map body | rfl)) ?_) | refine GOp.drawn (by rfl) (by rfl) (Nat.le_of_ble_eq_true (by rfl)) (by rfl) | refine GOp.via (by rfl) ?_ | refine GWP.drawY mixed _ (by kernel_rfl) (by rfl) ?_ | (first | (refine GCall.mk ((hof _).mono ?_); rintro _ _ ⟨rfl, rfl⟩) | (refine GCall.mk ((len_call [] _).mono ?_); rintro _ _ ⟨rfl, rfl⟩)) | (with_reducible first | refine stopO ?_ | refine stopE ?_ | refine stopD ?_ | refine stopW ?_ | refine stopG ?_ | refine stopC ?_ | refine stopR ?_)))
        (all_goals (first | omega | (rw [List.length_map]; done) | (rw [List.length_map]; omega) | skip))
        all_goals exact Done'.mk rfl
  · refine VCall.go Tryd.func10 rfl ?_
    repeat' (first | with_reducible refine And.intro ?_ ?_ | ((with_reducible intro hc); (try simp only [zA, zB, zC, zD, zE, zF, zG, zH, zI, zJ, zK, zL, zM, zN, zO, zP, zQ, zR, zS, zT, zU, zV, zW] at hc); (first | (exact absurd rfl hc) | (exact absurd trivial hc) | (exfalso; omega) | skip)) | exact Is.mk rfl rfl | ((conv => whnf); first | with_reducible refine And.intro ?_ ?_ | with_reducible intro hx | exact Is.mk rfl rfl | (with_reducible first | apply Val.via | apply ValH.via) | refine ifB_intro ?_ ?_ | refine xA (by omega) ?_ | ((refine xB ?_); intro kw hk1 hk2) | refine xC (by omega) ?_ | refine xD ?_ | refine xE (by omega) ?_ | refine xF (by omega) ?_ | refine xG ?_ | refine xH ?_ | refine xI (by omega) ?_ | refine xJ (by omega) ?_ | (with_reducible refine stopA ?_) | refine Exists.intro _ (And.intro (by rfl) ?_) | refine GOp.drawn (by rfl) (by rfl) (Nat.le_of_ble_eq_true (by rfl)) (by rfl) | refine GOp.via (by rfl) ?_ | refine GWP.drawY mixed _ (by kernel_rfl) (by rfl) ?_ | (refine GCall.mk ((lives11_call _).mono ?_); rintro _ _ ⟨rfl, rfl⟩) | (with_reducible first | refine stopO ?_ | refine stopE ?_ | refine stopD ?_ | refine stopW ?_ | refine stopG ?_ | refine stopC ?_ | refine stopR ?_)))
    all_goals (first | omega | exact Done'.mk rfl)
end Go.Proofs.YtmmjgbdihgdekaaDoor

/- What comes in, as values of the walk: rows of two slices of bytes. Over any program. -/
namespace Go.Proofs.YtmmjgbdihgdekaaDoor
open Go Go.ChangeShapes Go.WideShapes Go.RowKit
set_option linter.unusedSimpArgs false
set_option linter.unusedVariables false
theorem cell_roB {P : Program} {H : Type} {enc : TypeId × Value → H} {W : World} {t e : TypeId} {v : Value} {fuel : Nat} {x : DataW H × List MemPlace} (ut : P.underlying t = some (.slice e)) (ue : P.underlying e = some (.int .u8)) (hc : P.cellsOf e = 1)
    (hf : DataW.trod enc P W 0 (fun _ => true) true fuel t [v] = some x) : ∃ l : List UInt8, l.length ≤ maxLen ∧ VRel W (Old W) noName (roB l) v := by
  rcases open_ints ut ue hc hf with ⟨hcs, hx⟩ | ⟨a, len, cap, zs, hcs, _, hl, hm, hz, hx, hcell, hwz⟩
  · obtain rfl : v = .slice none 0 0 := by simpa using hcs
    exact ⟨[], Nat.zero_le _, .ro0⟩
  · obtain rfl : v = .slice (some a) len cap := by simpa using hcs
    simp only [if_true] at hz
    refine ⟨(zs.take len).map fun n => UInt8.ofNat n.toNat, by simp; omega, ?_⟩
    have hlen : ((zs.take len).map fun n => UInt8.ofNat n.toNat).length = len := by simp; omega
    unfold roB
    rw [hlen]
    by_cases h0 : len = 0
    · subst h0
      exact .ro0
    · obtain ⟨ab, ao, spot⟩ := a
      have hspot : spot = none := by simpa [Addr.add] using World.cell?_spot (hcell 0 (by omega))
      subst hspot
      have hZ : Old W ab := by
        have := hcell 0 (by omega)
        unfold Old
        simp only [Addr.add, World.cell?] at this
        cases hh : W.heap[ab]? with
        | none => simp [hh] at this
        | some o => exact (Array.getElem?_eq_some_iff.1 hh).1
      refine .ro (cs := (zs.take len).map (Value.int .u8)) hZ hl (by simp) (fun i hi => ?_) (fun i u c hu hc => ?_)
      · simp only [List.length_map, List.length_take] at hi
        have := hcell i (by omega)
        rw [Addr.add_lit] at this
        rw [this, List.getElem?_map, List.getElem?_take_of_lt (by omega), List.getD_eq_getElem?_getD, List.getElem?_eq_getElem (show i < zs.length by omega)]
        rfl
      · have hi : i < len := by
          have := (List.getElem?_eq_some_iff.1 hc).1
          simp at this
          omega
        rw [List.getElem?_map, List.getElem?_map, List.getElem?_take_of_lt hi, List.getElem?_eq_getElem (show i < zs.length by omega)] at hu
        rw [List.getElem?_map, List.getElem?_take_of_lt hi, List.getElem?_eq_getElem (show i < zs.length by omega)] at hc
        simp only [Option.map_some, Option.some.injEq] at hu hc
        subst hu hc
        have hb := range_u8 hwz i
        rw [List.getElem?_eq_getElem (show i < zs.length by omega)] at hb
        simp only [Option.getD_some] at hb
        have : ((UInt8.ofNat (zs[i]'(by omega)).toNat).toNat : Int) = zs[i]'(by omega) := by
          simp only [UInt8.toNat_ofNat']
          omega
        unfold bV
        rw [this]
        exact .sc rfl
theorem rows2_get (a b : HF → VV) : ∀ (l : List HF) (i : Nat), ((l.flatMap fun f => [a f, b f])[2 * i]? = (l[i]?).map a) ∧ ((l.flatMap fun f => [a f, b f])[2 * i + 1]? = (l[i]?).map b)
  | [], i => by simp
  | x :: l, 0 => by simp
  | x :: l, i + 1 => by
    have ih := rows2_get a b l i
    rw [List.flatMap_cons, show 2 * (i + 1) = 2 * i + 1 + 1 by omega]
    exact ih
theorem open_rF {P : Program} {H : Type} {enc : TypeId × Value → H} {W : World} {base : Nat} {t e : TypeId} {f0 f1 : Field} {u0 u1 : TypeId} {v : Value} {d : DataW H} {p : List MemPlace} (ut : P.underlying t = some (.slice e)) (ue : P.underlying e = some (.struct #[f0, f1]))
    (ce : P.cellsOf e = 2) (o0 : f0.offset = 0) (o1 : f1.offset = 1) (c0 : P.cellsOf f0.type = 1) (c1 : P.cellsOf f1.type = 1)
    (t0 : P.underlying f0.type = some (.slice u0)) (t1 : P.underlying f1.type = some (.slice u1)) (b0 : P.underlying u0 = some (.int .u8)) (b1 : P.underlying u1 = some (.int .u8)) (d0 : P.cellsOf u0 = 1) (d1 : P.cellsOf u1 = 1)
    (hval : Value.okWide P W .any base t v) (h : DataW.Trod enc P W 0 (fun _ => true) true t v d p) : ∃ l : List HF, l.length ≤ maxLen ∧ (∀ f ∈ l, f.1.length ≤ maxLen ∧ f.2.length ≤ maxLen) ∧ VRel W (Old W) noName (.ro l.length (rowsF l)) v := by
  obtain ⟨a1, len, cap, rfl⟩ := okWide_slice ut hval
  obtain ⟨fuel, hf⟩ := h
  rcases Go.Deep.open_slice_pairs ut ue ce o0 o1 c0 c1 hf with ⟨hcs, hx⟩ | ⟨a, len', cap', m, n, V0, V1, D0, D1, P0, P1, hcs, _, hl, hm, hmm, hx, hcell⟩
  · simp [Value.cells] at hcs
    obtain ⟨rfl, rfl, rfl⟩ := hcs
    exact ⟨[], Nat.zero_le _, (by simp), .ro0⟩
  · simp [Value.cells] at hcs
    obtain ⟨rfl, rfl, rfl⟩ := hcs
    simp only [if_true] at hmm
    subst hmm
    have each : ∀ i, i < m → ∃ f : HF, (f.1.length ≤ maxLen ∧ f.2.length ≤ maxLen) ∧ VRel W (Old W) noName (roB f.1) (V0 i) ∧ VRel W (Old W) noName (roB f.2) (V1 i) := fun i hi => by
      obtain ⟨_, _, g0, g1⟩ := hcell i hi
      obtain ⟨x, hx, rx⟩ := cell_roB t0 b0 d0 g0
      obtain ⟨y, hy, ry⟩ := cell_roB t1 b1 d1 g1
      exact ⟨(x, y), ⟨hx, hy⟩, rx, ry⟩
    obtain ⟨q, hq⟩ := Go.Deep.choose_lt each
    refine ⟨(List.range len).map q, by simp; omega, fun f hf => ?_, ?_⟩
    · obtain ⟨i, hi, rfl⟩ := List.mem_map.1 hf
      exact (hq i (by have := List.mem_range.1 hi; omega)).1
    have hlen : ((List.range len).map q).length = len := by simp
    rw [hlen]
    by_cases h0 : len = 0
    · subst h0
      exact .ro0
    · obtain ⟨ab, ao, spot⟩ := a
      have hspot : spot = none := by simpa [Addr.add] using World.cell?_spot (hcell 0 (by omega)).1
      subst hspot
      have hZ : Old W ab := by
        have := (hcell 0 (by omega)).1
        unfold Old
        simp only [Addr.add, World.cell?] at this
        cases hh : W.heap[ab]? with
        | none => simp [hh] at this
        | some o => exact (Array.getElem?_eq_some_iff.1 hh).1
      have hcs : ∀ i, i < len → ((List.range len).flatMap fun j => [V0 j, V1 j])[2 * i]? = some (V0 i) ∧ ((List.range len).flatMap fun j => [V0 j, V1 j])[2 * i + 1]? = some (V1 i) := by
        have key : ∀ (l : List Nat) (i : Nat), ((l.flatMap fun j => [V0 j, V1 j])[2 * i]? = (l[i]?).map V0) ∧ ((l.flatMap fun j => [V0 j, V1 j])[2 * i + 1]? = (l[i]?).map V1) := by
          intro l
          induction l with
          | nil => intro i; simp
          | cons x l ih =>
            intro i
            cases i with
            | zero => simp
            | succ i =>
              rw [List.flatMap_cons, show 2 * (i + 1) = 2 * i + 1 + 1 by omega]
              exact ih i
        intro i hi
        have := key (List.range len) i
        rw [List.getElem?_range hi] at this
        exact this
      have hll : ((List.range len).flatMap fun j => [V0 j, V1 j]).length = len * 2 := by
        have key : ∀ l : List Nat, (l.flatMap fun j => [V0 j, V1 j]).length = l.length * 2 := by
          intro l
          induction l with
          | nil => rfl
          | cons x l ih => rw [List.flatMap_cons, List.length_append, ih, List.length_cons]; simp; omega
        rw [key, List.length_range]
      have hrow : ∀ i, i < len → ((List.range len).map q)[i]? = some (q i) := fun i hi => by rw [List.getElem?_map, List.getElem?_range hi]; rfl
      refine .ro (cs := (List.range len).flatMap fun j => [V0 j, V1 j]) hZ hl (by rw [hll, rowsF_len, hlen]) (fun i hi => ?_) (fun i u c hu hc => ?_)
      · rw [hll] at hi
        have hi2 : i / 2 < len := by omega
        obtain ⟨g0, g1, _, _⟩ := hcell (i / 2) (by omega)
        rw [Addr.add_lit] at g0 g1
        rcases Nat.mod_two_eq_zero_or_one i with h | h
        · have e : i = 2 * (i / 2) := by omega
          rw [e, (hcs _ hi2).1, ← g0]
          congr 2
          omega
        · have e : i = 2 * (i / 2) + 1 := by omega
          rw [e, (hcs _ hi2).2, ← g1]
          congr 2
          omega
      · have hi : i < len * 2 := by
          have := (List.getElem?_eq_some_iff.1 hc).1
          omega
        have hi2 : i / 2 < len := by omega
        obtain ⟨_, k0, k1⟩ := hq (i / 2) (by omega)
        have hr := rows2_get (fun f => roB f.1) (fun f => roB f.2) ((List.range len).map q) (i / 2)
        rw [hrow _ hi2] at hr
        rcases Nat.mod_two_eq_zero_or_one i with h | h
        · have e : i = 2 * (i / 2) := by omega
          rw [e, (hcs _ hi2).1] at hc
          rw [e] at hu
          have hu : some (roB (q (i / 2)).1) = some u := hr.1.symm.trans hu
          injection hu with hu
          injection hc with hc
          subst hu hc
          exact k0
        · have e : i = 2 * (i / 2) + 1 := by omega
          rw [e, (hcs _ hi2).2] at hc
          rw [e] at hu
          have hu : some (roB (q (i / 2)).2) = some u := hr.2.symm.trans hu
          injection hu with hu
          injection hc with hc
          subst hu hc
          exact k1
end Go.Proofs.YtmmjgbdihgdekaaDoor

